/- ValueReads: the law, walked. -/
import Derived.Test.YtkkckfnkejijdaaGreatDoorM11
import Derived.Test.YtkkckfnkejijdaaGreatDoorM4
import Derived.Test.YtkkckfnkejijdaaGreatDoorM6
import Derived.Test.YtkkckfnkejijdaaGreatDoorM7
import Derived.Test.YtkkckfnkejijdaaGreatDoorM10
/- Values: lists of times are read, the program's and the document's. -/
namespace Go.Almanac
open Go.RowKit Go.Proofs Go.Abs

set_option linter.unusedSimpArgs false
set_option linter.unusedVariables false
set_option linter.unusedSectionVars false
set_option maxRecDepth 10000
set_option maxHeartbeats 1000000

noncomputable def timesL : List (List UInt8) → Option (List (Int × Bool × Bool))
  | [] => some []
  | x :: l => if (timeF x).2 = 0 then (timesL l).map ((timeF x).1 :: ·) else none
noncomputable def timesC (L : List (List UInt8)) : List (Int × Bool × Bool) × Int := if 100 < L.length then ([], 27) else match timesL L with
  | some o => (o, 0)
  | none => ([], 10)
noncomputable def timesF (s : List UInt8) : List (Int × Bool × Bool) × Int := timesC (Lib.split s [44])
theorem timeF_err {s : List UInt8} (h : ¬ (timeF s).2 = 0) : (timeF s).2 = 10 := by
  unfold timeF at h ⊢
  split
  · rename_i h1
    rw [if_pos h1] at h
    split
    · rename_i h2; rw [if_pos h2] at h; exact absurd rfl h
    · rename_i h2; exact readDay_err h2
  · rename_i h1
    rw [if_neg h1] at h
    split
    · rename_i h2; rw [if_pos h2] at h; exact absurd rfl h
    · rfl
theorem splitK_le (sep : List UInt8) : ∀ (k : Nat) (s : List UInt8), ∀ x ∈ Lib.splitK sep 0 k s, x.length ≤ s.length
  | 0, s, x, h => by simp [Lib.splitK] at h; subst h; exact Nat.le_refl _
  | k + 1, s, x, h => by
    unfold Lib.splitK at h
    split at h
    · simp at h; subst h; exact Nat.le_refl _
    · rcases List.mem_cons.1 h with rfl | q
      · simp; omega
      · have := splitK_le sep k _ x q
        simp at this; omega
theorem split_mem {s x : List UInt8} {c : UInt8} (h : x ∈ Lib.split s [c]) : x.length ≤ s.length := splitK_le _ _ _ _ h
theorem whensE_snoc (l : List (Int × Bool × Bool)) (w : Int × Bool × Bool) : whensE l ++ [[.int .i64 w.1, .bool w.2.1, .bool w.2.2]] = whensE (l ++ [w]) := by simp [whensE, whenE]
theorem drop_consL {L : List (List UInt8)} {i : Nat} (h : i < L.length) : L.drop i = L.getD i [] :: L.drop (i + 1) := by
  rw [List.drop_eq_getElem_cons h]; simp [List.getD, List.getElem?_eq_getElem h]

theorem timesC_some {L : List (List UInt8)} {o : List (Int × Bool × Bool)} (h : ¬ 100 < L.length) (h2 : timesL L = some o) : timesC L = (o, 0) := by simp [timesC, h, h2]
theorem timesC_none {L : List (List UInt8)} (h : ¬ 100 < L.length) (h2 : timesL L = none) : timesC L = ([], 10) := by simp [timesC, h, h2]
theorem getD_memS {L : List (List UInt8)} {i : Nat} (h : i < L.length) : L.getD i [] ∈ L := by
  simp [List.getD, List.getElem?_eq_getElem h]
theorem _root_.Go.Abs.SW.atV {β σ : St} {t : TypeId} {sz : Nat} {v : AV} {es : List (List AV)} (h : SW β t sz v σ es) {i : Nat} {B : Blk} (hi : β i = some B) : σ i = some B := by
  rw [h.keep i (by simp [hi]), hi]

/-- What the loops over texts end with. -/
def TimesEnd (st : St) (s : List UInt8) (x : AEnd) (st1 : St) : Prop := ∃ β v o k, SW β 56 3 v st1 (whensE o) ∧ st.sub β ∧ x = .ret (.tup [v, .int .i64 k]) ∧ timesF s = (o, k)
theorem times_thaw {G : Nat → AV} {f : FuncId} {args : List AV} {st : St} {s : List UInt8} (h : ACalls (Ev G) f args st (TimesEnd st s)) : ACalls (Ev G) f args st (fun e st' => st' = st ∧ e = .ret (.tup [.tree 3 (whensE (timesF s).1), .int .i64 (timesF s).2])) := by
  refine ACalls.thawL h ?_
  rintro x st1 ⟨β, v, o, k, h1, h2, rfl, h3⟩
  refine ⟨2, st, _, .tup [.tree 3 (whensE o), .int .i64 k], rfl, h1.sub h2, ?_, rfl, by rw [h3]⟩
  simp only [th_tup, List.map_cons, List.map_nil, th_int]
  refine VLe.tup (.cons (h1.thL h2 0 ?_) (.cons (VLe.refl _) .nil))
  intro e he c hc
  obtain ⟨w, _, rfl⟩ := List.mem_map.1 he
  simp only [whenE, List.mem_cons, List.not_mem_nil, or_false] at hc
  rcases hc with rfl | rfl | rfl <;> rfl

attribute [local go_sem] whenE
theorem t_Times (m : Int) (s : List UInt8) (hs : s.length ≤ 1048576) (st : St) : ACalls (Ev (Gt m)) 34 [.str s] st (fun e st' => st' = st ∧ e = .ret (.tup [.tree 3 (whensE (timesF s).1), .int .i64 (timesF s).2])) := by
  refine times_thaw ?_
  refine ACalls.of_body Tryz.func34 rfl ?_
  rw [Tryz.ntmps34]
  simp only [List.length_cons, List.length_nil, Nat.reduceAdd, Nat.reduceSub, List.replicate_succ, List.replicate_zero, List.cons_append, List.nil_append]
  (repeat' (first | refine AW.seq ?_ | refine AW.scope ?_ | refine AW.label ?_ | refine AW.block ?_ | refine AW.skip ?_ | refine AW.exit ?_ | refine AW.ret ?_))
  (refine AW.regionC fun Q' Kn hQ hK hK' => ?_; (repeat simp (disch := omega) only [go_sem, redN, Nat.reduceAdd, Int.reduceToNat, Int.reducePow]); (repeat' refine And.intro ?_ ?_); (try any_goals (first | (refine hK _ _ ?_; clear hK' hQ hK Q' Kn) | (intro hq9; refine ⟨hq9, ?_⟩; simp only [redB] at hq9; omega) | (intro hq9; refine ⟨hq9, fun hq8 => ?_⟩; rw [hq9, hq8]; rfl) | (simp; done) | omega | (simp only [redL]; omega) | (simp; omega) | (intros; (repeat' refine And.intro ?_ ?_) <;> (first | assumption | omega | (simp; done))))))
  (repeat' (first | refine AW.seq ?_ | refine AW.scope ?_ | refine AW.label ?_ | refine AW.block ?_ | refine AW.skip ?_ | refine AW.exit ?_ | refine AW.ret ?_))
  (refine AW.regionC fun Q' Kn hQ hK hK' => ?_; (repeat simp (disch := omega) only [go_sem, redN, Nat.reduceAdd, Int.reduceToNat, Int.reducePow]); (repeat' refine And.intro ?_ ?_); (try any_goals (first | (refine hK _ _ ?_; clear hK' hQ hK Q' Kn) | (intro hq9; refine ⟨hq9, ?_⟩; simp only [redB] at hq9; omega) | (intro hq9; refine ⟨hq9, fun hq8 => ?_⟩; rw [hq9, hq8]; rfl) | (simp; done) | omega | (simp only [redL]; omega) | (simp; omega) | (intros; (repeat' refine And.intro ?_ ?_) <;> (first | assumption | omega | (simp; done))))))
  refine AOp.call rfl (by simp only [go_sem]; rfl) (by simp [go_sem]) rfl (ACalls.mono (by simp only [go_sem]; exact b_Split m s 44 hs _) ?_)
  rintro e st2 ⟨il, hil, rfl, rfl⟩
  (refine AOpsC_ok hK' _ _ _ ?_; (repeat simp (disch := omega) only [go_sem, redN, Nat.reduceAdd, Int.reduceToNat, Int.reducePow]); (repeat' refine And.intro ?_ ?_); (try any_goals (first | (refine hK _ _ ?_; clear hK' hQ hK Q' Kn) | (intro hq9; refine ⟨hq9, ?_⟩; simp only [redB] at hq9; omega) | (intro hq9; refine ⟨hq9, fun hq8 => ?_⟩; rw [hq9, hq8]; rfl) | (simp; done) | omega | (simp only [redL]; omega) | (simp; omega) | (intros; (repeat' refine And.intro ?_ ?_) <;> (first | assumption | omega | (simp; done))))))
  have hT : timesF s = timesC (Lib.split s [44]) := rfl
  have hm : ∀ x ∈ Lib.split s [44], x.length ≤ 1048576 := fun x hx => by have := split_mem hx; omega
  have hc := split_count s 44
  generalize Lib.split s [44] = L at *
  have b0 : st.sub (st.set il (.cells 9 0 1 (strsE L))) := St.sub_set (St.sub_refl st) hil _
  have bl : (st.set il (.cells 9 0 1 (strsE L))) il = some (.cells 9 0 1 (strsE L)) := St.set_same _ _ _
  generalize St.set st il _ = β0 at b0 bl ⊢
  (repeat' (first | refine AW.seq ?_ | refine AW.scope ?_ | refine AW.label ?_ | refine AW.block ?_ | refine AW.skip ?_ | refine AW.exit ?_ | refine AW.ret ?_))
  (refine AW.regionC fun Q' Kn hQ hK hK' => ?_; (repeat simp (disch := omega) only [go_sem, redN, Nat.reduceAdd, Int.reduceToNat, Int.reducePow]); (repeat' refine And.intro ?_ ?_); (try any_goals (first | (refine hK _ _ ?_; clear hK' hQ hK Q' Kn) | (intro hq9; refine ⟨hq9, ?_⟩; simp only [redB] at hq9; omega) | (intro hq9; refine ⟨hq9, fun hq8 => ?_⟩; rw [hq9, hq8]; rfl) | (simp; done) | omega | (simp only [redL]; omega) | (simp; omega) | (intros; (repeat' refine And.intro ?_ ?_) <;> (first | assumption | omega | (simp; done))))))
  (repeat' (first | refine AW.seq ?_ | refine AW.scope ?_ | refine AW.label ?_ | refine AW.block ?_ | refine AW.skip ?_ | refine AW.exit ?_ | refine AW.ret ?_))
  (refine AW.cond (by simp (disch := omega) only [go_sem, redN, Nat.reduceAdd, Int.reduceToNat, Int.reducePow]; rfl) (fun hb => ?_) (fun hb => ?_) <;> (try simp only [redB] at hb))
  · skip
    (repeat' (first | refine AW.seq ?_ | refine AW.scope ?_ | refine AW.label ?_ | refine AW.block ?_ | refine AW.skip ?_ | refine AW.exit ?_ | refine AW.ret ?_))
    (refine AW.regionC fun Q' Kn hQ hK hK' => ?_; (repeat simp (disch := omega) only [go_sem, redN, Nat.reduceAdd, Int.reduceToNat, Int.reducePow]); (repeat' refine And.intro ?_ ?_); (try any_goals (first | (refine hK _ _ ?_; clear hK' hQ hK Q' Kn) | (intro hq9; refine ⟨hq9, ?_⟩; simp only [redB] at hq9; omega) | (intro hq9; refine ⟨hq9, fun hq8 => ?_⟩; rw [hq9, hq8]; rfl) | (simp; done) | omega | (simp only [redL]; omega) | (simp; omega) | (intros; (repeat' refine And.intro ?_ ?_) <;> (first | assumption | omega | (simp; done))))))
    (repeat' (first | refine AW.seq ?_ | refine AW.scope ?_ | refine AW.label ?_ | refine AW.block ?_ | refine AW.skip ?_ | refine AW.exit ?_ | refine AW.ret ?_))
    (refine ⟨_, _, rfl, by simp, ?_⟩; simp only [aTup, AA.get, List.getD_cons_zero, List.getD_cons_succ, true_and])
    exact ⟨β0, .nils, [], 27, SW.new _ _ _, b0, rfl, by rw [hT, timesC, if_pos (by omega)]⟩
  · have h100 : ¬ 100 < L.length := by omega
    (repeat' (first | refine AW.seq ?_ | refine AW.scope ?_ | refine AW.label ?_ | refine AW.block ?_ | refine AW.skip ?_ | refine AW.exit ?_ | refine AW.ret ?_))
    (refine AW.regionC fun Q' Kn hQ hK hK' => ?_; (repeat simp (disch := omega) only [go_sem, redN, Nat.reduceAdd, Int.reduceToNat, Int.reducePow]); (repeat' refine And.intro ?_ ?_); (try any_goals (first | (refine hK _ _ ?_; clear hK' hQ hK Q' Kn) | (intro hq9; refine ⟨hq9, ?_⟩; simp only [redB] at hq9; omega) | (intro hq9; refine ⟨hq9, fun hq8 => ?_⟩; rw [hq9, hq8]; rfl) | (simp; done) | omega | (simp only [redL]; omega) | (simp; omega) | (intros; (repeat' refine And.intro ?_ ?_) <;> (first | assumption | omega | (simp; done))))))
    (repeat' (first | refine AW.seq ?_ | refine AW.scope ?_ | refine AW.label ?_ | refine AW.block ?_ | refine AW.skip ?_ | refine AW.exit ?_ | refine AW.ret ?_))
    (refine AW.regionC fun Q' Kn hQ hK hK' => ?_; (repeat simp (disch := omega) only [go_sem, redN, Nat.reduceAdd, Int.reduceToNat, Int.reducePow]); (repeat' refine And.intro ?_ ?_); (try any_goals (first | (refine hK _ _ ?_; clear hK' hQ hK Q' Kn) | (intro hq9; refine ⟨hq9, ?_⟩; simp only [redB] at hq9; omega) | (intro hq9; refine ⟨hq9, fun hq8 => ?_⟩; rw [hq9, hq8]; rfl) | (simp; done) | omega | (simp only [redL]; omega) | (simp; omega) | (intros; (repeat' refine And.intro ?_ ?_) <;> (first | assumption | omega | (simp; done))))))
    (repeat' (first | refine AW.seq ?_ | refine AW.scope ?_ | refine AW.label ?_ | refine AW.block ?_ | refine AW.skip ?_ | refine AW.exit ?_ | refine AW.ret ?_))
    refine AW.loopF (fun x : Nat × List (Int × Bool × Bool) × AV × St => [.junk, .junk, .nils, .int .i64 0, .junk, x.2.2.1, .junk, .junk, .junk, .junk, .junk, .junk, .junk, .junk, .junk, .arr il 0 1 0 L.length, .int .i64 L.length, .int .i64 x.1, .junk, .junk, .junk, .junk, .junk, .junk, .junk, .junk, .junk, .junk, .junk, .junk, .junk, .junk, .junk, .junk, .junk]) (fun x => x.2.2.2)
      (fun x => x.1 ≤ L.length ∧ SW β0 56 3 x.2.2.1 x.2.2.2 (whensE x.2.1) ∧ x.2.1.length = x.1 ∧ timesL L = (timesL (L.drop x.1)).map (x.2.1 ++ ·)) (fun x => L.length - x.1) (0, [], .nils, β0) ?_ rfl ?_ ?_
    · (repeat (first | exact Weak.nil | refine Weak.junk _ ?_ | refine Weak.same _ ?_ | refine Weak.eqv (by (congr 1; first | omega | (simp; done) | exact w_i64 (by omega) (by omega))) ?_))
    · exact ⟨by simp, by simpa [whensE] using SW.new β0 56 3, by simp, by simp⟩
    rintro ⟨i, o, v, σ⟩ ⟨g1, g2, g3, g4⟩
    dsimp only at g1 g2 g3 g4 ⊢
    (repeat' (first | refine AW.seq ?_ | refine AW.scope ?_ | refine AW.label ?_ | refine AW.block ?_ | refine AW.skip ?_ | refine AW.exit ?_ | refine AW.ret ?_))
    (refine AW.regionC fun Q' Kn hQ hK hK' => ?_; (repeat simp (disch := omega) only [go_sem, redN, Nat.reduceAdd, Int.reduceToNat, Int.reducePow]); (repeat' refine And.intro ?_ ?_); (try any_goals (first | (refine hK _ _ ?_; clear hK' hQ hK Q' Kn) | (intro hq9; refine ⟨hq9, ?_⟩; simp only [redB] at hq9; omega) | (intro hq9; refine ⟨hq9, fun hq8 => ?_⟩; rw [hq9, hq8]; rfl) | (simp; done) | omega | (simp only [redL]; omega) | (simp; omega) | (intros; (repeat' refine And.intro ?_ ?_) <;> (first | assumption | omega | (simp; done))))))
    (repeat' (first | refine AW.seq ?_ | refine AW.scope ?_ | refine AW.label ?_ | refine AW.block ?_ | refine AW.skip ?_ | refine AW.exit ?_ | refine AW.ret ?_))
    (refine AW.cond (by simp (disch := omega) only [go_sem, redN, Nat.reduceAdd, Int.reduceToNat, Int.reducePow]; rfl) (fun hb => ?_) (fun hb => ?_) <;> (try simp only [redB] at hb))
    · have hi : i < L.length := by omega
      have hlx := hm _ (getD_memS hi)
      rw [drop_consL hi] at g4
      have hL := g2.atV bl
      generalize hx : L.getD i [] = x at hlx g4
      rw [timesL] at g4
      skip
      (repeat' (first | refine AW.seq ?_ | refine AW.scope ?_ | refine AW.label ?_ | refine AW.block ?_ | refine AW.skip ?_ | refine AW.exit ?_ | refine AW.ret ?_))
      (refine AW.regionC fun Q' Kn hQ hK hK' => ?_; (repeat simp (disch := omega) only [go_sem, redN, Nat.reduceAdd, Int.reduceToNat, Int.reducePow]); (repeat' refine And.intro ?_ ?_); (try any_goals (first | (refine hK _ _ ?_; clear hK' hQ hK Q' Kn) | (intro hq9; refine ⟨hq9, ?_⟩; simp only [redB] at hq9; omega) | (intro hq9; refine ⟨hq9, fun hq8 => ?_⟩; rw [hq9, hq8]; rfl) | (simp; done) | omega | (simp only [redL]; omega) | (simp; omega) | (intros; (repeat' refine And.intro ?_ ?_) <;> (first | assumption | omega | (simp; done))))))
      refine AOp.loadCell rfl (by simp only [go_sem] <;> rfl) (by simp [go_sem]) hL rfl (by simp; omega) (by simp) ?_
      (refine AOpsC_ok hK' _ _ _ ?_; (repeat simp (disch := omega) only [go_sem, redN, Nat.reduceAdd, Int.reduceToNat, Int.reducePow]); (repeat' refine And.intro ?_ ?_); (try any_goals (first | (refine hK _ _ ?_; clear hK' hQ hK Q' Kn) | (intro hq9; refine ⟨hq9, ?_⟩; simp only [redB] at hq9; omega) | (intro hq9; refine ⟨hq9, fun hq8 => ?_⟩; rw [hq9, hq8]; rfl) | (simp; done) | omega | (simp only [redL]; omega) | (simp; omega) | (intros; (repeat' refine And.intro ?_ ?_) <;> (first | assumption | omega | (simp; done))))))
      (repeat' (first | refine AW.seq ?_ | refine AW.scope ?_ | refine AW.label ?_ | refine AW.block ?_ | refine AW.skip ?_ | refine AW.exit ?_ | refine AW.ret ?_))
      (refine AW.regionC fun Q' Kn hQ hK hK' => ?_; (repeat simp (disch := omega) only [go_sem, redN, Nat.reduceAdd, Int.reduceToNat, Int.reducePow]); (repeat' refine And.intro ?_ ?_); (try any_goals (first | (refine hK _ _ ?_; clear hK' hQ hK Q' Kn) | (intro hq9; refine ⟨hq9, ?_⟩; simp only [redB] at hq9; omega) | (intro hq9; refine ⟨hq9, fun hq8 => ?_⟩; rw [hq9, hq8]; rfl) | (simp; done) | omega | (simp only [redL]; omega) | (simp; omega) | (intros; (repeat' refine And.intro ?_ ?_) <;> (first | assumption | omega | (simp; done))))))
      rw [Nat.zero_add, hx]
      refine AOp.call rfl (by simp only [go_sem]; rfl) (by simp [go_sem]) rfl (ACalls.mono (by simp only [go_sem]; exact t_Time m x hlx _) ?_)
      rintro e st' ⟨rfl, rfl⟩
      (refine AOpsC_ok hK' _ _ _ ?_; (repeat simp (disch := omega) only [go_sem, redN, Nat.reduceAdd, Int.reduceToNat, Int.reducePow]); (repeat' refine And.intro ?_ ?_); (try any_goals (first | (refine hK _ _ ?_; clear hK' hQ hK Q' Kn) | (intro hq9; refine ⟨hq9, ?_⟩; simp only [redB] at hq9; omega) | (intro hq9; refine ⟨hq9, fun hq8 => ?_⟩; rw [hq9, hq8]; rfl) | (simp; done) | omega | (simp only [redL]; omega) | (simp; omega) | (intros; (repeat' refine And.intro ?_ ?_) <;> (first | assumption | omega | (simp; done))))))
      refine AOp.alloc rfl (by simp only [go_sem]; rfl) fun b8 hb8 => ?_
      (refine AOpsC_ok hK' _ _ _ ?_; (repeat simp (disch := omega) only [go_sem, redN, Nat.reduceAdd, Int.reduceToNat, Int.reducePow]); (repeat' refine And.intro ?_ ?_); (try any_goals (first | (refine hK _ _ ?_; clear hK' hQ hK Q' Kn) | (intro hq9; refine ⟨hq9, ?_⟩; simp only [redB] at hq9; omega) | (intro hq9; refine ⟨hq9, fun hq8 => ?_⟩; rw [hq9, hq8]; rfl) | (simp; done) | omega | (simp only [redL]; omega) | (simp; omega) | (intros; (repeat' refine And.intro ?_ ?_) <;> (first | assumption | omega | (simp; done))))))
      refine AOp.storeAll (cs := [.int .i64 (timeF x).1.1, .bool (timeF x).1.2.1, .bool (timeF x).1.2.2]) rfl (by simp only [go_sem] <;> rfl) (by simp [go_sem]) (St.set_same _ _ _) (by first | (simp only [go_sem]; done) | (simp [go_sem]; done) | (simp [go_sem]; omega)) (by simp [go_sem, isCell]) rfl rfl rfl ?_
      (refine AOpsC_ok hK' _ _ _ ?_; (repeat simp (disch := omega) only [go_sem, redN, Nat.reduceAdd, Int.reduceToNat, Int.reducePow]); (repeat' refine And.intro ?_ ?_); (try any_goals (first | (refine hK _ _ ?_; clear hK' hQ hK Q' Kn) | (intro hq9; refine ⟨hq9, ?_⟩; simp only [redB] at hq9; omega) | (intro hq9; refine ⟨hq9, fun hq8 => ?_⟩; rw [hq9, hq8]; rfl) | (simp; done) | omega | (simp only [redL]; omega) | (simp; omega) | (intros; (repeat' refine And.intro ?_ ?_) <;> (first | assumption | omega | (simp; done))))))
      rw [St.set_set]
      refine AW.freeze 8 rfl (St.set_same _ _ _) ?_
      rw [St.del_set _ _ hb8]
      (repeat' (first | refine AW.seq ?_ | refine AW.scope ?_ | refine AW.label ?_ | refine AW.block ?_ | refine AW.skip ?_ | refine AW.exit ?_ | refine AW.ret ?_))
      (refine AW.regionC fun Q' Kn hQ hK hK' => ?_; (repeat simp (disch := omega) only [go_sem, redN, Nat.reduceAdd, Int.reduceToNat, Int.reducePow]); (repeat' refine And.intro ?_ ?_); (try any_goals (first | (refine hK _ _ ?_; clear hK' hQ hK Q' Kn) | (intro hq9; refine ⟨hq9, ?_⟩; simp only [redB] at hq9; omega) | (intro hq9; refine ⟨hq9, fun hq8 => ?_⟩; rw [hq9, hq8]; rfl) | (simp; done) | omega | (simp only [redL]; omega) | (simp; omega) | (intros; (repeat' refine And.intro ?_ ?_) <;> (first | assumption | omega | (simp; done))))))
      (repeat' (first | refine AW.seq ?_ | refine AW.scope ?_ | refine AW.label ?_ | refine AW.block ?_ | refine AW.skip ?_ | refine AW.exit ?_ | refine AW.ret ?_))
      (refine AW.cond (by simp (disch := omega) only [go_sem, redN, Nat.reduceAdd, Int.reduceToNat, Int.reducePow]; rfl) (fun hb => ?_) (fun hb => ?_) <;> (try simp only [redB] at hb))
      · (repeat' (first | refine AW.seq ?_ | refine AW.scope ?_ | refine AW.label ?_ | refine AW.block ?_ | refine AW.skip ?_ | refine AW.exit ?_ | refine AW.ret ?_))
        (refine AW.regionC fun Q' Kn hQ hK hK' => ?_; (repeat simp (disch := omega) only [go_sem, redN, Nat.reduceAdd, Int.reduceToNat, Int.reducePow]); (repeat' refine And.intro ?_ ?_); (try any_goals (first | (refine hK _ _ ?_; clear hK' hQ hK Q' Kn) | (intro hq9; refine ⟨hq9, ?_⟩; simp only [redB] at hq9; omega) | (intro hq9; refine ⟨hq9, fun hq8 => ?_⟩; rw [hq9, hq8]; rfl) | (simp; done) | omega | (simp only [redL]; omega) | (simp; omega) | (intros; (repeat' refine And.intro ?_ ?_) <;> (first | assumption | omega | (simp; done))))))
        (repeat' (first | refine AW.seq ?_ | refine AW.scope ?_ | refine AW.label ?_ | refine AW.block ?_ | refine AW.skip ?_ | refine AW.exit ?_ | refine AW.ret ?_))
        (refine ⟨_, _, rfl, by simp, ?_⟩; simp only [aTup, AA.get, List.getD_cons_zero, List.getD_cons_succ, true_and])
        rw [if_neg hb] at g4
        exact ⟨st', .nils, [], (timeF x).2, SW.new st' _ _, fun i B hi => g2.atV (b0 i B hi), rfl, by rw [hT, timeF_err hb, timesC_none h100 (by simpa using g4)]⟩
      rw [if_pos hb] at g4
      rcases g2.own with ⟨rfl, _⟩ | ⟨_, _, rfl, _⟩
      all_goals
        try rw [whensE_length] at g2
        (repeat' (first | refine AW.seq ?_ | refine AW.scope ?_ | refine AW.label ?_ | refine AW.block ?_ | refine AW.skip ?_ | refine AW.exit ?_ | refine AW.ret ?_))
        (refine AW.regionC fun Q' Kn hQ hK hK' => ?_; (repeat simp (disch := omega) only [go_sem, redN, Nat.reduceAdd, Int.reduceToNat, Int.reducePow]); (repeat' refine And.intro ?_ ?_); (try any_goals (first | (refine hK _ _ ?_; clear hK' hQ hK Q' Kn) | (intro hq9; refine ⟨hq9, ?_⟩; simp only [redB] at hq9; omega) | (intro hq9; refine ⟨hq9, fun hq8 => ?_⟩; rw [hq9, hq8]; rfl) | (simp; done) | omega | (simp only [redL]; omega) | (simp; omega) | (intros; (repeat' refine And.intro ?_ ?_) <;> (first | assumption | omega | (simp; done))))))
        refine AOp.buildSlice (e := 56) (sz := 3) (es := [whenE (timeF x).1]) rfl rfl rfl rfl (by simp [partsC, go_sem]) (by simp [aParts, go_sem]) (by simp [whenE]) rfl (by decide) (by decide) fun it hit => ?_
        (refine AOpsC_ok hK' _ _ _ ?_; (repeat simp (disch := omega) only [go_sem, redN, Nat.reduceAdd, Int.reduceToNat, Int.reducePow]); (repeat' refine And.intro ?_ ?_); (try any_goals (first | (refine hK _ _ ?_; clear hK' hQ hK Q' Kn) | (intro hq9; refine ⟨hq9, ?_⟩; simp only [redB] at hq9; omega) | (intro hq9; refine ⟨hq9, fun hq8 => ?_⟩; rw [hq9, hq8]; rfl) | (simp; done) | omega | (simp only [redL]; omega) | (simp; omega) | (intros; (repeat' refine And.intro ?_ ?_) <;> (first | assumption | omega | (simp; done))))))
        refine AOp.appendE (e := 56) (sz := 3) (by_ := 16) rfl rfl rfl rfl rfl rfl rfl (by decide) g2 hit rfl (by simp [isCell]) (by simp [whensE_length]; omega) (by simp [maxLen, whensE_length]; omega) (by simp) fun v' σ' h3 => ?_
        (refine AOpsC_ok hK' _ _ _ ?_; (repeat simp (disch := omega) only [go_sem, redN, Nat.reduceAdd, Int.reduceToNat, Int.reducePow]); (repeat' refine And.intro ?_ ?_); (try any_goals (first | (refine hK _ _ ?_; clear hK' hQ hK Q' Kn) | (intro hq9; refine ⟨hq9, ?_⟩; simp only [redB] at hq9; omega) | (intro hq9; refine ⟨hq9, fun hq8 => ?_⟩; rw [hq9, hq8]; rfl) | (simp; done) | omega | (simp only [redL]; omega) | (simp; omega) | (intros; (repeat' refine And.intro ?_ ?_) <;> (first | assumption | omega | (simp; done))))))
        (repeat' (first | refine AW.seq ?_ | refine AW.scope ?_ | refine AW.label ?_ | refine AW.block ?_ | refine AW.skip ?_ | refine AW.exit ?_ | refine AW.ret ?_ | (refine AW.regionC fun Q' Kn hQ hK hK' => ?_; (repeat simp (disch := omega) only [go_sem, redN, Nat.reduceAdd, Int.reduceToNat, Int.reducePow]); (repeat' refine And.intro ?_ ?_); (try any_goals (first | (refine hK _ _ ?_; clear hK' hQ hK Q' Kn) | (intro hq9; refine ⟨hq9, ?_⟩; simp only [redB] at hq9; omega) | (intro hq9; refine ⟨hq9, fun hq8 => ?_⟩; rw [hq9, hq8]; rfl) | (simp; done) | omega | (simp only [redL]; omega) | (simp; omega) | (intros; (repeat' refine And.intro ?_ ?_) <;> (first | assumption | omega | (simp; done)))))) | (refine AW.cond (by simp (disch := omega) only [go_sem, redN, Nat.reduceAdd, Int.reduceToNat, Int.reducePow]; rfl) (fun hb => ?_) (fun hb => ?_) <;> (try simp only [redB] at hb))))
        rw [whensE_snoc] at h3
        refine ⟨(i + 1, o ++ [(timeF x).1], v', σ'), ⟨by dsimp only; omega, h3, by simp; omega, ?_⟩, by dsimp only; omega, ?_, rfl, rfl⟩
        · dsimp only
          rw [g4, Option.map_map]
          congr 1
          funext y
          simp
        · (repeat (first | exact Weak.nil | refine Weak.junk _ ?_ | refine Weak.same _ ?_ | refine Weak.eqv (by (congr 1; first | omega | (simp; done) | exact w_i64 (by omega) (by omega))) ?_))
    · (repeat' (first | refine AW.seq ?_ | refine AW.scope ?_ | refine AW.label ?_ | refine AW.block ?_ | refine AW.skip ?_ | refine AW.exit ?_ | refine AW.ret ?_))
      (refine AW.regionC fun Q' Kn hQ hK hK' => ?_; (repeat simp (disch := omega) only [go_sem, redN, Nat.reduceAdd, Int.reduceToNat, Int.reducePow]); (repeat' refine And.intro ?_ ?_); (try any_goals (first | (refine hK _ _ ?_; clear hK' hQ hK Q' Kn) | (intro hq9; refine ⟨hq9, ?_⟩; simp only [redB] at hq9; omega) | (intro hq9; refine ⟨hq9, fun hq8 => ?_⟩; rw [hq9, hq8]; rfl) | (simp; done) | omega | (simp only [redL]; omega) | (simp; omega) | (intros; (repeat' refine And.intro ?_ ?_) <;> (first | assumption | omega | (simp; done))))))
      (repeat' (first | refine AW.seq ?_ | refine AW.scope ?_ | refine AW.label ?_ | refine AW.block ?_ | refine AW.skip ?_ | refine AW.exit ?_ | refine AW.ret ?_))
      (refine ⟨_, _, rfl, by simp, ?_⟩; simp only [aTup, AA.get, List.getD_cons_zero, List.getD_cons_succ, true_and])
      have hi : i = L.length := by omega
      subst hi
      rw [List.drop_length, timesL] at g4
      exact ⟨β0, v, o, 0, g2, b0, rfl, by rw [hT, timesC_some h100 (by simpa using g4)]⟩
theorem r_Times (m : Int) (s : List UInt8) (hs : s.length ≤ 1048576) (st : St) : ACalls (Ev (Gt m)) 35 [.str s] st (fun e st' => st' = st ∧ e = .ret (.tup [.tree 3 (whensE (timesF s).1), .int .i64 (timesF s).2])) := by
  refine times_thaw ?_
  refine ACalls.of_body Tryz.func35 rfl ?_
  rw [Tryz.ntmps35]
  simp only [List.length_cons, List.length_nil, Nat.reduceAdd, Nat.reduceSub, List.replicate_succ, List.replicate_zero, List.cons_append, List.nil_append]
  (repeat' (first | refine AW.seq ?_ | refine AW.scope ?_ | refine AW.label ?_ | refine AW.block ?_ | refine AW.skip ?_ | refine AW.exit ?_ | refine AW.ret ?_))
  (refine AW.regionC fun Q' Kn hQ hK hK' => ?_; (repeat simp (disch := omega) only [go_sem, redN, Nat.reduceAdd, Int.reduceToNat, Int.reducePow]); (repeat' refine And.intro ?_ ?_); (try any_goals (first | (refine hK _ _ ?_; clear hK' hQ hK Q' Kn) | (intro hq9; refine ⟨hq9, ?_⟩; simp only [redB] at hq9; omega) | (intro hq9; refine ⟨hq9, fun hq8 => ?_⟩; rw [hq9, hq8]; rfl) | (simp; done) | omega | (simp only [redL]; omega) | (simp; omega) | (intros; (repeat' refine And.intro ?_ ?_) <;> (first | assumption | omega | (simp; done))))))
  (repeat' (first | refine AW.seq ?_ | refine AW.scope ?_ | refine AW.label ?_ | refine AW.block ?_ | refine AW.skip ?_ | refine AW.exit ?_ | refine AW.ret ?_))
  (refine AW.regionC fun Q' Kn hQ hK hK' => ?_; (repeat simp (disch := omega) only [go_sem, redN, Nat.reduceAdd, Int.reduceToNat, Int.reducePow]); (repeat' refine And.intro ?_ ?_); (try any_goals (first | (refine hK _ _ ?_; clear hK' hQ hK Q' Kn) | (intro hq9; refine ⟨hq9, ?_⟩; simp only [redB] at hq9; omega) | (intro hq9; refine ⟨hq9, fun hq8 => ?_⟩; rw [hq9, hq8]; rfl) | (simp; done) | omega | (simp only [redL]; omega) | (simp; omega) | (intros; (repeat' refine And.intro ?_ ?_) <;> (first | assumption | omega | (simp; done))))))
  refine AOp.call rfl (by simp only [go_sem]; rfl) (by simp [go_sem]) rfl (ACalls.mono (by simp only [go_sem]; exact r_Split (Gt m) s 44 hs _) ?_)
  rintro e st' ⟨rfl, rfl⟩
  (refine AOpsC_ok hK' _ _ _ ?_; (repeat simp (disch := omega) only [go_sem, redN, Nat.reduceAdd, Int.reduceToNat, Int.reducePow]); (repeat' refine And.intro ?_ ?_); (try any_goals (first | (refine hK _ _ ?_; clear hK' hQ hK Q' Kn) | (intro hq9; refine ⟨hq9, ?_⟩; simp only [redB] at hq9; omega) | (intro hq9; refine ⟨hq9, fun hq8 => ?_⟩; rw [hq9, hq8]; rfl) | (simp; done) | omega | (simp only [redL]; omega) | (simp; omega) | (intros; (repeat' refine And.intro ?_ ?_) <;> (first | assumption | omega | (simp; done))))))
  have hT : timesF s = timesC (Lib.split s [44]) := rfl
  have hm : ∀ x ∈ Lib.split s [44], x.length ≤ 1048576 := fun x hx => by have := split_mem hx; omega
  have hc := split_count s 44
  generalize Lib.split s [44] = L at *
  (repeat' (first | refine AW.seq ?_ | refine AW.scope ?_ | refine AW.label ?_ | refine AW.block ?_ | refine AW.skip ?_ | refine AW.exit ?_ | refine AW.ret ?_))
  (refine AW.regionC fun Q' Kn hQ hK hK' => ?_; (repeat simp (disch := omega) only [go_sem, redN, Nat.reduceAdd, Int.reduceToNat, Int.reducePow]); (repeat' refine And.intro ?_ ?_); (try any_goals (first | (refine hK _ _ ?_; clear hK' hQ hK Q' Kn) | (intro hq9; refine ⟨hq9, ?_⟩; simp only [redB] at hq9; omega) | (intro hq9; refine ⟨hq9, fun hq8 => ?_⟩; rw [hq9, hq8]; rfl) | (simp; done) | omega | (simp only [redL]; omega) | (simp; omega) | (intros; (repeat' refine And.intro ?_ ?_) <;> (first | assumption | omega | (simp; done))))))
  (repeat' (first | refine AW.seq ?_ | refine AW.scope ?_ | refine AW.label ?_ | refine AW.block ?_ | refine AW.skip ?_ | refine AW.exit ?_ | refine AW.ret ?_))
  (refine AW.cond (by simp (disch := omega) only [go_sem, redN, Nat.reduceAdd, Int.reduceToNat, Int.reducePow]; rfl) (fun hb => ?_) (fun hb => ?_) <;> (try simp only [redB] at hb))
  · skip
    (repeat' (first | refine AW.seq ?_ | refine AW.scope ?_ | refine AW.label ?_ | refine AW.block ?_ | refine AW.skip ?_ | refine AW.exit ?_ | refine AW.ret ?_))
    (refine AW.regionC fun Q' Kn hQ hK hK' => ?_; (repeat simp (disch := omega) only [go_sem, redN, Nat.reduceAdd, Int.reduceToNat, Int.reducePow]); (repeat' refine And.intro ?_ ?_); (try any_goals (first | (refine hK _ _ ?_; clear hK' hQ hK Q' Kn) | (intro hq9; refine ⟨hq9, ?_⟩; simp only [redB] at hq9; omega) | (intro hq9; refine ⟨hq9, fun hq8 => ?_⟩; rw [hq9, hq8]; rfl) | (simp; done) | omega | (simp only [redL]; omega) | (simp; omega) | (intros; (repeat' refine And.intro ?_ ?_) <;> (first | assumption | omega | (simp; done))))))
    (repeat' (first | refine AW.seq ?_ | refine AW.scope ?_ | refine AW.label ?_ | refine AW.block ?_ | refine AW.skip ?_ | refine AW.exit ?_ | refine AW.ret ?_))
    (refine ⟨_, _, rfl, by simp, ?_⟩; simp only [aTup, AA.get, List.getD_cons_zero, List.getD_cons_succ, true_and])
    exact ⟨_, .nils, [], 27, SW.new _ _ _, St.sub_refl _, rfl, by rw [hT, timesC, if_pos (by omega)]⟩
  · have h100 : ¬ 100 < L.length := by omega
    (repeat' (first | refine AW.seq ?_ | refine AW.scope ?_ | refine AW.label ?_ | refine AW.block ?_ | refine AW.skip ?_ | refine AW.exit ?_ | refine AW.ret ?_))
    (refine AW.regionC fun Q' Kn hQ hK hK' => ?_; (repeat simp (disch := omega) only [go_sem, redN, Nat.reduceAdd, Int.reduceToNat, Int.reducePow]); (repeat' refine And.intro ?_ ?_); (try any_goals (first | (refine hK _ _ ?_; clear hK' hQ hK Q' Kn) | (intro hq9; refine ⟨hq9, ?_⟩; simp only [redB] at hq9; omega) | (intro hq9; refine ⟨hq9, fun hq8 => ?_⟩; rw [hq9, hq8]; rfl) | (simp; done) | omega | (simp only [redL]; omega) | (simp; omega) | (intros; (repeat' refine And.intro ?_ ?_) <;> (first | assumption | omega | (simp; done))))))
    (repeat' (first | refine AW.seq ?_ | refine AW.scope ?_ | refine AW.label ?_ | refine AW.block ?_ | refine AW.skip ?_ | refine AW.exit ?_ | refine AW.ret ?_))
    (refine AW.regionC fun Q' Kn hQ hK hK' => ?_; (repeat simp (disch := omega) only [go_sem, redN, Nat.reduceAdd, Int.reduceToNat, Int.reducePow]); (repeat' refine And.intro ?_ ?_); (try any_goals (first | (refine hK _ _ ?_; clear hK' hQ hK Q' Kn) | (intro hq9; refine ⟨hq9, ?_⟩; simp only [redB] at hq9; omega) | (intro hq9; refine ⟨hq9, fun hq8 => ?_⟩; rw [hq9, hq8]; rfl) | (simp; done) | omega | (simp only [redL]; omega) | (simp; omega) | (intros; (repeat' refine And.intro ?_ ?_) <;> (first | assumption | omega | (simp; done))))))
    (repeat' (first | refine AW.seq ?_ | refine AW.scope ?_ | refine AW.label ?_ | refine AW.block ?_ | refine AW.skip ?_ | refine AW.exit ?_ | refine AW.ret ?_))
    refine AW.loopF (fun x : Nat × List (Int × Bool × Bool) × AV × St => [.junk, .junk, .nils, .int .i64 0, .tree 1 (strsE L), x.2.2.1, .int .i64 x.1, .junk, .junk, .junk, .junk, .junk, .junk, .junk, .junk, .junk, .junk, .junk, .junk, .junk, .junk, .junk, .junk, .junk, .junk, .junk, .junk, .junk, .junk, .junk, .junk, .junk, .junk, .junk, .junk]) (fun x => x.2.2.2)
      (fun x => x.1 ≤ L.length ∧ SW st' 56 3 x.2.2.1 x.2.2.2 (whensE x.2.1) ∧ x.2.1.length = x.1 ∧ timesL L = (timesL (L.drop x.1)).map (x.2.1 ++ ·)) (fun x => L.length - x.1) (0, [], .nils, st') ?_ rfl ?_ ?_
    · (repeat (first | exact Weak.nil | refine Weak.junk _ ?_ | refine Weak.same _ ?_ | refine Weak.eqv (by (congr 1; first | omega | (simp; done) | exact w_i64 (by omega) (by omega))) ?_))
    · exact ⟨by simp, by simpa [whensE] using SW.new st' 56 3, by simp, by simp⟩
    rintro ⟨i, o, v, σ⟩ ⟨g1, g2, g3, g4⟩
    dsimp only at g1 g2 g3 g4 ⊢
    (repeat' (first | refine AW.seq ?_ | refine AW.scope ?_ | refine AW.label ?_ | refine AW.block ?_ | refine AW.skip ?_ | refine AW.exit ?_ | refine AW.ret ?_))
    (refine AW.regionC fun Q' Kn hQ hK hK' => ?_; (repeat simp (disch := omega) only [go_sem, redN, Nat.reduceAdd, Int.reduceToNat, Int.reducePow]); (repeat' refine And.intro ?_ ?_); (try any_goals (first | (refine hK _ _ ?_; clear hK' hQ hK Q' Kn) | (intro hq9; refine ⟨hq9, ?_⟩; simp only [redB] at hq9; omega) | (intro hq9; refine ⟨hq9, fun hq8 => ?_⟩; rw [hq9, hq8]; rfl) | (simp; done) | omega | (simp only [redL]; omega) | (simp; omega) | (intros; (repeat' refine And.intro ?_ ?_) <;> (first | assumption | omega | (simp; done))))))
    (repeat' (first | refine AW.seq ?_ | refine AW.scope ?_ | refine AW.label ?_ | refine AW.block ?_ | refine AW.skip ?_ | refine AW.exit ?_ | refine AW.ret ?_))
    (refine AW.cond (by simp (disch := omega) only [go_sem, redN, Nat.reduceAdd, Int.reduceToNat, Int.reducePow]; rfl) (fun hb => ?_) (fun hb => ?_) <;> (try simp only [redB] at hb))
    · have hi : i < L.length := by omega
      have hlx := hm _ (getD_memS hi)
      rw [drop_consL hi] at g4
      generalize hx : L.getD i [] = x at hlx g4
      rw [timesL] at g4
      skip
      (repeat' (first | refine AW.seq ?_ | refine AW.scope ?_ | refine AW.label ?_ | refine AW.block ?_ | refine AW.skip ?_ | refine AW.exit ?_ | refine AW.ret ?_))
      (refine AW.regionC fun Q' Kn hQ hK hK' => ?_; (repeat simp (disch := omega) only [go_sem, redN, Nat.reduceAdd, Int.reduceToNat, Int.reducePow]); (repeat' refine And.intro ?_ ?_); (try any_goals (first | (refine hK _ _ ?_; clear hK' hQ hK Q' Kn) | (intro hq9; refine ⟨hq9, ?_⟩; simp only [redB] at hq9; omega) | (intro hq9; refine ⟨hq9, fun hq8 => ?_⟩; rw [hq9, hq8]; rfl) | (simp; done) | omega | (simp only [redL]; omega) | (simp; omega) | (intros; (repeat' refine And.intro ?_ ?_) <;> (first | assumption | omega | (simp; done))))))
      rw [hx]
      refine AOp.call rfl (by simp only [go_sem]; rfl) (by simp [go_sem]) rfl (ACalls.mono (by simp only [go_sem]; exact r_Time (Gt m) x hlx _) ?_)
      rintro e st' ⟨rfl, rfl⟩
      (refine AOpsC_ok hK' _ _ _ ?_; (repeat simp (disch := omega) only [go_sem, redN, Nat.reduceAdd, Int.reduceToNat, Int.reducePow]); (repeat' refine And.intro ?_ ?_); (try any_goals (first | (refine hK _ _ ?_; clear hK' hQ hK Q' Kn) | (intro hq9; refine ⟨hq9, ?_⟩; simp only [redB] at hq9; omega) | (intro hq9; refine ⟨hq9, fun hq8 => ?_⟩; rw [hq9, hq8]; rfl) | (simp; done) | omega | (simp only [redL]; omega) | (simp; omega) | (intros; (repeat' refine And.intro ?_ ?_) <;> (first | assumption | omega | (simp; done))))))
      refine AOp.alloc rfl (by simp only [go_sem]; rfl) fun b8 hb8 => ?_
      (refine AOpsC_ok hK' _ _ _ ?_; (repeat simp (disch := omega) only [go_sem, redN, Nat.reduceAdd, Int.reduceToNat, Int.reducePow]); (repeat' refine And.intro ?_ ?_); (try any_goals (first | (refine hK _ _ ?_; clear hK' hQ hK Q' Kn) | (intro hq9; refine ⟨hq9, ?_⟩; simp only [redB] at hq9; omega) | (intro hq9; refine ⟨hq9, fun hq8 => ?_⟩; rw [hq9, hq8]; rfl) | (simp; done) | omega | (simp only [redL]; omega) | (simp; omega) | (intros; (repeat' refine And.intro ?_ ?_) <;> (first | assumption | omega | (simp; done))))))
      refine AOp.storeAll (cs := [.int .i64 (timeF x).1.1, .bool (timeF x).1.2.1, .bool (timeF x).1.2.2]) rfl (by simp only [go_sem] <;> rfl) (by simp [go_sem]) (St.set_same _ _ _) (by first | (simp only [go_sem]; done) | (simp [go_sem]; done) | (simp [go_sem]; omega)) (by simp [go_sem, isCell]) rfl rfl rfl ?_
      (refine AOpsC_ok hK' _ _ _ ?_; (repeat simp (disch := omega) only [go_sem, redN, Nat.reduceAdd, Int.reduceToNat, Int.reducePow]); (repeat' refine And.intro ?_ ?_); (try any_goals (first | (refine hK _ _ ?_; clear hK' hQ hK Q' Kn) | (intro hq9; refine ⟨hq9, ?_⟩; simp only [redB] at hq9; omega) | (intro hq9; refine ⟨hq9, fun hq8 => ?_⟩; rw [hq9, hq8]; rfl) | (simp; done) | omega | (simp only [redL]; omega) | (simp; omega) | (intros; (repeat' refine And.intro ?_ ?_) <;> (first | assumption | omega | (simp; done))))))
      rw [St.set_set]
      refine AW.freeze 7 rfl (St.set_same _ _ _) ?_
      rw [St.del_set _ _ hb8]
      (repeat' (first | refine AW.seq ?_ | refine AW.scope ?_ | refine AW.label ?_ | refine AW.block ?_ | refine AW.skip ?_ | refine AW.exit ?_ | refine AW.ret ?_))
      (refine AW.regionC fun Q' Kn hQ hK hK' => ?_; (repeat simp (disch := omega) only [go_sem, redN, Nat.reduceAdd, Int.reduceToNat, Int.reducePow]); (repeat' refine And.intro ?_ ?_); (try any_goals (first | (refine hK _ _ ?_; clear hK' hQ hK Q' Kn) | (intro hq9; refine ⟨hq9, ?_⟩; simp only [redB] at hq9; omega) | (intro hq9; refine ⟨hq9, fun hq8 => ?_⟩; rw [hq9, hq8]; rfl) | (simp; done) | omega | (simp only [redL]; omega) | (simp; omega) | (intros; (repeat' refine And.intro ?_ ?_) <;> (first | assumption | omega | (simp; done))))))
      (repeat' (first | refine AW.seq ?_ | refine AW.scope ?_ | refine AW.label ?_ | refine AW.block ?_ | refine AW.skip ?_ | refine AW.exit ?_ | refine AW.ret ?_))
      (refine AW.cond (by simp (disch := omega) only [go_sem, redN, Nat.reduceAdd, Int.reduceToNat, Int.reducePow]; rfl) (fun hb => ?_) (fun hb => ?_) <;> (try simp only [redB] at hb))
      · (repeat' (first | refine AW.seq ?_ | refine AW.scope ?_ | refine AW.label ?_ | refine AW.block ?_ | refine AW.skip ?_ | refine AW.exit ?_ | refine AW.ret ?_))
        (refine AW.regionC fun Q' Kn hQ hK hK' => ?_; (repeat simp (disch := omega) only [go_sem, redN, Nat.reduceAdd, Int.reduceToNat, Int.reducePow]); (repeat' refine And.intro ?_ ?_); (try any_goals (first | (refine hK _ _ ?_; clear hK' hQ hK Q' Kn) | (intro hq9; refine ⟨hq9, ?_⟩; simp only [redB] at hq9; omega) | (intro hq9; refine ⟨hq9, fun hq8 => ?_⟩; rw [hq9, hq8]; rfl) | (simp; done) | omega | (simp only [redL]; omega) | (simp; omega) | (intros; (repeat' refine And.intro ?_ ?_) <;> (first | assumption | omega | (simp; done))))))
        (repeat' (first | refine AW.seq ?_ | refine AW.scope ?_ | refine AW.label ?_ | refine AW.block ?_ | refine AW.skip ?_ | refine AW.exit ?_ | refine AW.ret ?_))
        (refine ⟨_, _, rfl, by simp, ?_⟩; simp only [aTup, AA.get, List.getD_cons_zero, List.getD_cons_succ, true_and])
        rw [if_neg hb] at g4
        exact ⟨_, .nils, [], 10, SW.new _ _ _, fun i B hi => g2.atV hi, rfl, by rw [hT, timesC_none h100 (by simpa using g4)]⟩
      rw [if_pos hb] at g4
      rcases g2.own with ⟨rfl, _⟩ | ⟨_, _, rfl, _⟩
      all_goals
        try rw [whensE_length] at g2
        (repeat' (first | refine AW.seq ?_ | refine AW.scope ?_ | refine AW.label ?_ | refine AW.block ?_ | refine AW.skip ?_ | refine AW.exit ?_ | refine AW.ret ?_))
        (refine AW.regionC fun Q' Kn hQ hK hK' => ?_; (repeat simp (disch := omega) only [go_sem, redN, Nat.reduceAdd, Int.reduceToNat, Int.reducePow]); (repeat' refine And.intro ?_ ?_); (try any_goals (first | (refine hK _ _ ?_; clear hK' hQ hK Q' Kn) | (intro hq9; refine ⟨hq9, ?_⟩; simp only [redB] at hq9; omega) | (intro hq9; refine ⟨hq9, fun hq8 => ?_⟩; rw [hq9, hq8]; rfl) | (simp; done) | omega | (simp only [redL]; omega) | (simp; omega) | (intros; (repeat' refine And.intro ?_ ?_) <;> (first | assumption | omega | (simp; done))))))
        refine AOp.buildSlice (e := 56) (sz := 3) (es := [whenE (timeF x).1]) rfl rfl rfl rfl (by simp [partsC, go_sem]) (by simp [aParts, go_sem]) (by simp [whenE]) rfl (by decide) (by decide) fun it hit => ?_
        (refine AOpsC_ok hK' _ _ _ ?_; (repeat simp (disch := omega) only [go_sem, redN, Nat.reduceAdd, Int.reduceToNat, Int.reducePow]); (repeat' refine And.intro ?_ ?_); (try any_goals (first | (refine hK _ _ ?_; clear hK' hQ hK Q' Kn) | (intro hq9; refine ⟨hq9, ?_⟩; simp only [redB] at hq9; omega) | (intro hq9; refine ⟨hq9, fun hq8 => ?_⟩; rw [hq9, hq8]; rfl) | (simp; done) | omega | (simp only [redL]; omega) | (simp; omega) | (intros; (repeat' refine And.intro ?_ ?_) <;> (first | assumption | omega | (simp; done))))))
        refine AOp.appendE (e := 56) (sz := 3) (by_ := 16) rfl rfl rfl rfl rfl rfl rfl (by decide) g2 hit rfl (by simp [isCell]) (by simp [whensE_length]; omega) (by simp [maxLen, whensE_length]; omega) (by simp) fun v' σ' h3 => ?_
        (refine AOpsC_ok hK' _ _ _ ?_; (repeat simp (disch := omega) only [go_sem, redN, Nat.reduceAdd, Int.reduceToNat, Int.reducePow]); (repeat' refine And.intro ?_ ?_); (try any_goals (first | (refine hK _ _ ?_; clear hK' hQ hK Q' Kn) | (intro hq9; refine ⟨hq9, ?_⟩; simp only [redB] at hq9; omega) | (intro hq9; refine ⟨hq9, fun hq8 => ?_⟩; rw [hq9, hq8]; rfl) | (simp; done) | omega | (simp only [redL]; omega) | (simp; omega) | (intros; (repeat' refine And.intro ?_ ?_) <;> (first | assumption | omega | (simp; done))))))
        (repeat' (first | refine AW.seq ?_ | refine AW.scope ?_ | refine AW.label ?_ | refine AW.block ?_ | refine AW.skip ?_ | refine AW.exit ?_ | refine AW.ret ?_ | (refine AW.regionC fun Q' Kn hQ hK hK' => ?_; (repeat simp (disch := omega) only [go_sem, redN, Nat.reduceAdd, Int.reduceToNat, Int.reducePow]); (repeat' refine And.intro ?_ ?_); (try any_goals (first | (refine hK _ _ ?_; clear hK' hQ hK Q' Kn) | (intro hq9; refine ⟨hq9, ?_⟩; simp only [redB] at hq9; omega) | (intro hq9; refine ⟨hq9, fun hq8 => ?_⟩; rw [hq9, hq8]; rfl) | (simp; done) | omega | (simp only [redL]; omega) | (simp; omega) | (intros; (repeat' refine And.intro ?_ ?_) <;> (first | assumption | omega | (simp; done)))))) | (refine AW.cond (by simp (disch := omega) only [go_sem, redN, Nat.reduceAdd, Int.reduceToNat, Int.reducePow]; rfl) (fun hb => ?_) (fun hb => ?_) <;> (try simp only [redB] at hb))))
        rw [whensE_snoc] at h3
        refine ⟨(i + 1, o ++ [(timeF x).1], v', σ'), ⟨by dsimp only; omega, h3, by simp; omega, ?_⟩, by dsimp only; omega, ?_, rfl, rfl⟩
        · dsimp only
          rw [g4, Option.map_map]
          congr 1
          funext y
          simp
        · (repeat (first | exact Weak.nil | refine Weak.junk _ ?_ | refine Weak.same _ ?_ | refine Weak.eqv (by (congr 1; first | omega | (simp; done) | exact w_i64 (by omega) (by omega))) ?_))
    · (repeat' (first | refine AW.seq ?_ | refine AW.scope ?_ | refine AW.label ?_ | refine AW.block ?_ | refine AW.skip ?_ | refine AW.exit ?_ | refine AW.ret ?_))
      (refine AW.regionC fun Q' Kn hQ hK hK' => ?_; (repeat simp (disch := omega) only [go_sem, redN, Nat.reduceAdd, Int.reduceToNat, Int.reducePow]); (repeat' refine And.intro ?_ ?_); (try any_goals (first | (refine hK _ _ ?_; clear hK' hQ hK Q' Kn) | (intro hq9; refine ⟨hq9, ?_⟩; simp only [redB] at hq9; omega) | (intro hq9; refine ⟨hq9, fun hq8 => ?_⟩; rw [hq9, hq8]; rfl) | (simp; done) | omega | (simp only [redL]; omega) | (simp; omega) | (intros; (repeat' refine And.intro ?_ ?_) <;> (first | assumption | omega | (simp; done))))))
      (repeat' (first | refine AW.seq ?_ | refine AW.scope ?_ | refine AW.label ?_ | refine AW.block ?_ | refine AW.skip ?_ | refine AW.exit ?_ | refine AW.ret ?_))
      (refine ⟨_, _, rfl, by simp, ?_⟩; simp only [aTup, AA.get, List.getD_cons_zero, List.getD_cons_succ, true_and])
      have hi : i = L.length := by omega
      subst hi
      rw [List.drop_length, timesL] at g4
      exact ⟨_, v, o, 0, g2, St.sub_refl _, rfl, by rw [hT, timesC_some h100 (by simpa using g4)]⟩
end Go.Almanac

/- Values: a period is read, the program's and the document's. -/
namespace Go.Almanac
open Go.RowKit Go.Proofs Go.Abs

set_option linter.unusedSimpArgs false
set_option linter.unusedVariables false
set_option linter.unusedSectionVars false
set_option maxRecDepth 10000
set_option maxHeartbeats 1000000

theorem readStamp_bounds (s : List UInt8) : -300000000000 ≤ (readStamp s).1 ∧ (readStamp s).1 ≤ 300000000000 := by
  have hrb := readDay_bounds (s.take 8)
  have f1 := fieldN_bounds s 9 2
  have f2 := fieldN_bounds s 11 2
  have f3 := fieldN_bounds s 13 2
  unfold readStamp
  split
  · dsimp only; unfold stampN; omega
  · simp
theorem timeF_bounds (s : List UInt8) : -300000000000 ≤ (timeF s).1.1 ∧ (timeF s).1.1 ≤ 300000000000 := by
  have h1 := readDay_bounds s
  have h2 := readStamp_bounds (Lib.trimSuffix s [90])
  unfold timeF
  (repeat' split) <;> dsimp only <;> omega
theorem durF_bounds (s : List UInt8) : -50000000000000 ≤ (durF s).1 ∧ (durF s).1 ≤ 50000000000000 := by
  have h1 := signS_sign s
  have h2 := sizeF_bound (Lib.trimPrefix (signS s).2 [80])
  unfold durF durC
  split
  · simp
  · dsimp only
    rcases h1 with h | h <;> rw [h] <;> omega

/-- What a period is, when its two halves are read. -/
noncomputable def periodC (a b : List UInt8) (ok : Bool) : ((Int × Bool × Bool) × Int) × Int :=
  if ok = false ∨ (timeF a).2 ≠ 0 ∨ (timeF a).1.2.2 = true then (((0, false, false), 0), 10)
  else if (durF b).2 = 0 then (if (durF b).1 < 0 then (((0, false, false), 0), 10) else (((timeF a).1, (durF b).1), 0))
  else if (timeF b).2 ≠ 0 ∨ (timeF b).1.2.2 = true ∨ (timeF b).1.2.1 ≠ (timeF a).1.2.1 ∨ (timeF b).1.1 < (timeF a).1.1 then (((0, false, false), 0), 10)
  else (((timeF a).1, (timeF b).1.1 - (timeF a).1.1), 0)
noncomputable def periodF (s : List UInt8) : ((Int × Bool × Bool) × Int) × Int := periodC (Lib.cut s [47]).1 (Lib.cut s [47]).2.1 (Lib.cut s [47]).2.2
def periodE (p : (Int × Bool × Bool) × Int) : List AV := [.int .i64 p.1.1, .bool p.1.2.1, .bool p.1.2.2, .int .i64 p.2]
theorem cut_le (s sep : List UInt8) : (Lib.cut s sep).1.length ≤ s.length ∧ (Lib.cut s sep).2.1.length ≤ s.length := by
  unfold Lib.cut
  split <;> simp <;> omega

theorem periodC_no {a b : List UInt8} {ok : Bool} (h : (ok = false ∨ ¬ (timeF a).2 = 0) ∨ (timeF a).1.2.2 = true) : periodC a b ok = (((0, false, false), 0), 10) := by
  rw [periodC, if_pos (by rcases h with (h | h) | h; exact .inl h; exact .inr (.inl h); exact .inr (.inr h))]
theorem periodC_dur {a b : List UInt8} {ok : Bool} (h : (ok = true ∧ (timeF a).2 = 0) ∧ (timeF a).1.2.2 = false) (h2 : (durF b).2 = 0) : periodC a b ok = if (durF b).1 < 0 then (((0, false, false), 0), 10) else (((timeF a).1, (durF b).1), 0) := by
  rw [periodC, if_neg (by simp [h.1.1, h.1.2, h.2]), if_pos h2]
theorem periodC_no2 {a b : List UInt8} {ok : Bool} (h : (ok = true ∧ (timeF a).2 = 0) ∧ (timeF a).1.2.2 = false) (h2 : ¬ (durF b).2 = 0) (h3 : (¬ (timeF b).2 = 0 ∨ (timeF b).1.2.2 = true) ∨ ¬ (timeF b).1.2.1 = (timeF a).1.2.1) : periodC a b ok = (((0, false, false), 0), 10) := by
  rw [periodC, if_neg (by simp [h.1.1, h.1.2, h.2]), if_neg h2, if_pos (by rcases h3 with (h | h) | h; exact .inl h; exact .inr (.inl h); exact .inr (.inr (.inl h)))]
theorem periodC_end {a b : List UInt8} {ok : Bool} (h : (ok = true ∧ (timeF a).2 = 0) ∧ (timeF a).1.2.2 = false) (h2 : ¬ (durF b).2 = 0) (h3 : ((timeF b).2 = 0 ∧ (timeF b).1.2.2 = false) ∧ (timeF b).1.2.1 = (timeF a).1.2.1) : periodC a b ok = if (timeF b).1.1 - (timeF a).1.1 < 0 then (((0, false, false), 0), 10) else (((timeF a).1, (timeF b).1.1 - (timeF a).1.1), 0) := by
  rw [periodC, if_neg (by simp [h.1.1, h.1.2, h.2]), if_neg h2]
  by_cases hn : (timeF b).1.1 - (timeF a).1.1 < 0
  · rw [if_pos hn, if_pos (.inr (.inr (.inr (by omega))))]
  · rw [if_neg hn, if_neg (by simp only [h3.1.1, h3.1.2, h3.2]; simp; omega)]
attribute [local go_sem] whenE
theorem t_Period (m : Int) (s : List UInt8) (hs : s.length ≤ 1048576) (st : St) : ACalls (Ev (Gt m)) 36 [.str s] st (fun e st' => st' = st ∧ e = .ret (.tup [.agg (periodE (periodF s).1), .int .i64 (periodF s).2])) := by
  refine ACalls.thaw (R' := fun e st' => st.sub st' ∧ e = .ret (.tup [.agg (periodE (periodF s).1), .int .i64 (periodF s).2])) ?_ (fun x st1 h => ⟨2, st, h.1, rfl, by rw [h.2]; rfl⟩)
  refine ACalls.of_body Tryz.func36 rfl ?_
  rw [Tryz.ntmps36]
  simp only [List.length_cons, List.length_nil, Nat.reduceAdd, Nat.reduceSub, List.replicate_succ, List.replicate_zero, List.cons_append, List.nil_append]
  (repeat' (first | refine AW.seq ?_ | refine AW.scope ?_ | refine AW.label ?_ | refine AW.block ?_ | refine AW.skip ?_ | refine AW.exit ?_ | refine AW.ret ?_))
  (refine AW.regionC fun Q' Kn hQ hK hK' => ?_; (repeat simp (disch := omega) only [go_sem, redN, Nat.reduceAdd, Int.reduceToNat, Int.reducePow]); (repeat' refine And.intro ?_ ?_); (try any_goals (first | (refine hK _ _ ?_; clear hK' hQ hK Q' Kn) | (intro hq9; refine ⟨hq9, ?_⟩; simp only [redB] at hq9; omega) | (intro hq9; refine ⟨hq9, fun hq8 => ?_⟩; rw [hq9, hq8]; rfl) | (simp; done) | omega | (simp only [redL]; omega) | (simp; omega) | (intros; (repeat' refine And.intro ?_ ?_) <;> (first | assumption | omega | (simp; done))))))
  refine AOp.alloc rfl (by simp only [go_sem]; rfl) fun b hb0 => ?_
  (refine AOpsC_ok hK' _ _ _ ?_; (repeat simp (disch := omega) only [go_sem, redN, Nat.reduceAdd, Int.reduceToNat, Int.reducePow]); (repeat' refine And.intro ?_ ?_); (try any_goals (first | (refine hK _ _ ?_; clear hK' hQ hK Q' Kn) | (intro hq9; refine ⟨hq9, ?_⟩; simp only [redB] at hq9; omega) | (intro hq9; refine ⟨hq9, fun hq8 => ?_⟩; rw [hq9, hq8]; rfl) | (simp; done) | omega | (simp only [redL]; omega) | (simp; omega) | (intros; (repeat' refine And.intro ?_ ?_) <;> (first | assumption | omega | (simp; done))))))
  have m1 := (MM.nil st).new hb0 (.cells 67 0 4 [[.int .i64 0, .bool false, .bool false, .int .i64 0]])
  generalize St.set st b _ = σ1 at m1 ⊢
  (repeat' (first | refine AW.seq ?_ | refine AW.scope ?_ | refine AW.label ?_ | refine AW.block ?_ | refine AW.skip ?_ | refine AW.exit ?_ | refine AW.ret ?_))
  (refine AW.regionC fun Q' Kn hQ hK hK' => ?_; (repeat simp (disch := omega) only [go_sem, redN, Nat.reduceAdd, Int.reduceToNat, Int.reducePow]); (repeat' refine And.intro ?_ ?_); (try any_goals (first | (refine hK _ _ ?_; clear hK' hQ hK Q' Kn) | (intro hq9; refine ⟨hq9, ?_⟩; simp only [redB] at hq9; omega) | (intro hq9; refine ⟨hq9, fun hq8 => ?_⟩; rw [hq9, hq8]; rfl) | (simp; done) | omega | (simp only [redL]; omega) | (simp; omega) | (intros; (repeat' refine And.intro ?_ ?_) <;> (first | assumption | omega | (simp; done))))))
  refine AOp.call rfl (by simp only [go_sem]; rfl) (by simp [go_sem]) rfl (ACalls.mono (by simp only [go_sem]; exact b_Cut m s [47] hs _) ?_)
  rintro e st' ⟨rfl, rfl⟩
  (refine AOpsC_ok hK' _ _ _ ?_; (repeat simp (disch := omega) only [go_sem, redN, Nat.reduceAdd, Int.reduceToNat, Int.reducePow]); (repeat' refine And.intro ?_ ?_); (try any_goals (first | (refine hK _ _ ?_; clear hK' hQ hK Q' Kn) | (intro hq9; refine ⟨hq9, ?_⟩; simp only [redB] at hq9; omega) | (intro hq9; refine ⟨hq9, fun hq8 => ?_⟩; rw [hq9, hq8]; rfl) | (simp; done) | omega | (simp only [redL]; omega) | (simp; omega) | (intros; (repeat' refine And.intro ?_ ?_) <;> (first | assumption | omega | (simp; done))))))
  have hF : periodF s = periodC (Lib.cut s [47]).1 (Lib.cut s [47]).2.1 (Lib.cut s [47]).2.2 := rfl
  obtain ⟨hl1, hl2⟩ := cut_le s [47]
  generalize (Lib.cut s [47]).1 = x at *
  generalize (Lib.cut s [47]).2.1 = y at *
  generalize (Lib.cut s [47]).2.2 = ok at *
  have hx := timeF_bounds x
  have hy := timeF_bounds y
  have hd := durF_bounds y
  (repeat' (first | refine AW.seq ?_ | refine AW.scope ?_ | refine AW.label ?_ | refine AW.block ?_ | refine AW.skip ?_ | refine AW.exit ?_ | refine AW.ret ?_))
  (refine AW.regionC fun Q' Kn hQ hK hK' => ?_; (repeat simp (disch := omega) only [go_sem, redN, Nat.reduceAdd, Int.reduceToNat, Int.reducePow]); (repeat' refine And.intro ?_ ?_); (try any_goals (first | (refine hK _ _ ?_; clear hK' hQ hK Q' Kn) | (intro hq9; refine ⟨hq9, ?_⟩; simp only [redB] at hq9; omega) | (intro hq9; refine ⟨hq9, fun hq8 => ?_⟩; rw [hq9, hq8]; rfl) | (simp; done) | omega | (simp only [redL]; omega) | (simp; omega) | (intros; (repeat' refine And.intro ?_ ?_) <;> (first | assumption | omega | (simp; done))))))
  refine AOp.call rfl (by simp only [go_sem]; rfl) (by simp [go_sem]) rfl (ACalls.mono (by simp only [go_sem]; exact t_Time m x (by omega) _) ?_)
  rintro e st' ⟨rfl, rfl⟩
  (refine AOpsC_ok hK' _ _ _ ?_; (repeat simp (disch := omega) only [go_sem, redN, Nat.reduceAdd, Int.reduceToNat, Int.reducePow]); (repeat' refine And.intro ?_ ?_); (try any_goals (first | (refine hK _ _ ?_; clear hK' hQ hK Q' Kn) | (intro hq9; refine ⟨hq9, ?_⟩; simp only [redB] at hq9; omega) | (intro hq9; refine ⟨hq9, fun hq8 => ?_⟩; rw [hq9, hq8]; rfl) | (simp; done) | omega | (simp only [redL]; omega) | (simp; omega) | (intros; (repeat' refine And.intro ?_ ?_) <;> (first | assumption | omega | (simp; done))))))
  refine AOp.alloc rfl (by simp only [go_sem]; rfl) fun b7 hb7 => ?_
  (refine AOpsC_ok hK' _ _ _ ?_; (repeat simp (disch := omega) only [go_sem, redN, Nat.reduceAdd, Int.reduceToNat, Int.reducePow]); (repeat' refine And.intro ?_ ?_); (try any_goals (first | (refine hK _ _ ?_; clear hK' hQ hK Q' Kn) | (intro hq9; refine ⟨hq9, ?_⟩; simp only [redB] at hq9; omega) | (intro hq9; refine ⟨hq9, fun hq8 => ?_⟩; rw [hq9, hq8]; rfl) | (simp; done) | omega | (simp only [redL]; omega) | (simp; omega) | (intros; (repeat' refine And.intro ?_ ?_) <;> (first | assumption | omega | (simp; done))))))
  refine AOp.storeAll (cs := [.int .i64 (timeF x).1.1, .bool (timeF x).1.2.1, .bool (timeF x).1.2.2]) rfl (by simp only [go_sem] <;> rfl) (by simp [go_sem]) (St.set_same _ _ _) (by first | (simp only [go_sem]; done) | (simp [go_sem]; done) | (simp [go_sem]; omega)) (by simp [go_sem, isCell]) rfl rfl rfl ?_
  (refine AOpsC_ok hK' _ _ _ ?_; (repeat simp (disch := omega) only [go_sem, redN, Nat.reduceAdd, Int.reduceToNat, Int.reducePow]); (repeat' refine And.intro ?_ ?_); (try any_goals (first | (refine hK _ _ ?_; clear hK' hQ hK Q' Kn) | (intro hq9; refine ⟨hq9, ?_⟩; simp only [redB] at hq9; omega) | (intro hq9; refine ⟨hq9, fun hq8 => ?_⟩; rw [hq9, hq8]; rfl) | (simp; done) | omega | (simp only [redL]; omega) | (simp; omega) | (intros; (repeat' refine And.intro ?_ ?_) <;> (first | assumption | omega | (simp; done))))))
  rw [St.set_set]
  refine AW.freeze 7 rfl (St.set_same _ _ _) ?_
  rw [St.del_set _ _ hb7]
  (repeat' (first | refine AW.seq ?_ | refine AW.scope ?_ | refine AW.label ?_ | refine AW.block ?_ | refine AW.skip ?_ | refine AW.exit ?_ | refine AW.ret ?_))
  (refine AW.regionC fun Q' Kn hQ hK hK' => ?_; (repeat simp (disch := omega) only [go_sem, redN, Nat.reduceAdd, Int.reduceToNat, Int.reducePow]); (repeat' refine And.intro ?_ ?_); (try any_goals (first | (refine hK _ _ ?_; clear hK' hQ hK Q' Kn) | (intro hq9; refine ⟨hq9, ?_⟩; simp only [redB] at hq9; omega) | (intro hq9; refine ⟨hq9, fun hq8 => ?_⟩; rw [hq9, hq8]; rfl) | (simp; done) | omega | (simp only [redL]; omega) | (simp; omega) | (intros; (repeat' refine And.intro ?_ ?_) <;> (first | assumption | omega | (simp; done))))))
  (repeat' (first | refine AW.seq ?_ | refine AW.scope ?_ | refine AW.label ?_ | refine AW.block ?_ | refine AW.skip ?_ | refine AW.exit ?_ | refine AW.ret ?_))
  (refine AW.cond (by simp (disch := omega) only [go_sem, redN, Nat.reduceAdd, Int.reduceToNat, Int.reducePow]; rfl) (fun hb => ?_) (fun hb => ?_) <;> (try simp only [redB] at hb))
  · skip
    (repeat' (first | refine AW.seq ?_ | refine AW.scope ?_ | refine AW.label ?_ | refine AW.block ?_ | refine AW.skip ?_ | refine AW.exit ?_ | refine AW.ret ?_))
    (refine AW.regionC fun Q' Kn hQ hK hK' => ?_; (repeat simp (disch := omega) only [go_sem, redN, Nat.reduceAdd, Int.reduceToNat, Int.reducePow]); (repeat' refine And.intro ?_ ?_); (try any_goals (first | (refine hK _ _ ?_; clear hK' hQ hK Q' Kn) | (intro hq9; refine ⟨hq9, ?_⟩; simp only [redB] at hq9; omega) | (intro hq9; refine ⟨hq9, fun hq8 => ?_⟩; rw [hq9, hq8]; rfl) | (simp; done) | omega | (simp only [redL]; omega) | (simp; omega) | (intros; (repeat' refine And.intro ?_ ?_) <;> (first | assumption | omega | (simp; done))))))
    refine AOp.storeAll (cs := [.int .i64 0, .bool false, .bool false, .int .i64 0]) rfl (by simp only [go_sem] <;> rfl) (by simp [go_sem]) (m1.get 0 rfl) (by first | (simp only [go_sem]; done) | (simp [go_sem]; done) | (simp [go_sem]; omega)) (by simp [go_sem, isCell]) rfl rfl rfl ?_
    (refine AOpsC_ok hK' _ _ _ ?_; (repeat simp (disch := omega) only [go_sem, redN, Nat.reduceAdd, Int.reduceToNat, Int.reducePow]); (repeat' refine And.intro ?_ ?_); (try any_goals (first | (refine hK _ _ ?_; clear hK' hQ hK Q' Kn) | (intro hq9; refine ⟨hq9, ?_⟩; simp only [redB] at hq9; omega) | (intro hq9; refine ⟨hq9, fun hq8 => ?_⟩; rw [hq9, hq8]; rfl) | (simp; done) | omega | (simp only [redL]; omega) | (simp; omega) | (intros; (repeat' refine And.intro ?_ ?_) <;> (first | assumption | omega | (simp; done))))))
    (repeat' (first | refine AW.seq ?_ | refine AW.scope ?_ | refine AW.label ?_ | refine AW.block ?_ | refine AW.skip ?_ | refine AW.exit ?_ | refine AW.ret ?_ | (refine AW.regionC fun Q' Kn hQ hK hK' => ?_; (repeat simp (disch := omega) only [go_sem, redN, Nat.reduceAdd, Int.reduceToNat, Int.reducePow]); (repeat' refine And.intro ?_ ?_); (try any_goals (first | (refine hK _ _ ?_; clear hK' hQ hK Q' Kn) | (intro hq9; refine ⟨hq9, ?_⟩; simp only [redB] at hq9; omega) | (intro hq9; refine ⟨hq9, fun hq8 => ?_⟩; rw [hq9, hq8]; rfl) | (simp; done) | omega | (simp only [redL]; omega) | (simp; omega) | (intros; (repeat' refine And.intro ?_ ?_) <;> (first | assumption | omega | (simp; done)))))) | (refine AW.cond (by simp (disch := omega) only [go_sem, redN, Nat.reduceAdd, Int.reduceToNat, Int.reducePow]; rfl) (fun hb => ?_) (fun hb => ?_) <;> (try simp only [redB] at hb))))
    (try simp only [AThen])
    refine ABody.ofRess (vs := [.agg [.int .i64 0, .bool false, .bool false, .int .i64 0], .int .i64 10]) rfl (aRess_cell (aLoad_all (St.set_same _ _ _) rfl rfl rfl) (aRess_tmp aRess_nil)) ?_
    refine ⟨(m1.put 0 rfl _).sub, ?_⟩
    rw [hF, periodC_no hb]
    rfl
  have hA := hb
  (repeat' (first | refine AW.seq ?_ | refine AW.scope ?_ | refine AW.label ?_ | refine AW.block ?_ | refine AW.skip ?_ | refine AW.exit ?_ | refine AW.ret ?_))
  (refine AW.regionC fun Q' Kn hQ hK hK' => ?_; (repeat simp (disch := omega) only [go_sem, redN, Nat.reduceAdd, Int.reduceToNat, Int.reducePow]); (repeat' refine And.intro ?_ ?_); (try any_goals (first | (refine hK _ _ ?_; clear hK' hQ hK Q' Kn) | (intro hq9; refine ⟨hq9, ?_⟩; simp only [redB] at hq9; omega) | (intro hq9; refine ⟨hq9, fun hq8 => ?_⟩; rw [hq9, hq8]; rfl) | (simp; done) | omega | (simp only [redL]; omega) | (simp; omega) | (intros; (repeat' refine And.intro ?_ ?_) <;> (first | assumption | omega | (simp; done))))))
  refine AOp.call rfl (by simp only [go_sem]; rfl) (by simp [go_sem]) rfl (ACalls.mono (by simp only [go_sem]; exact t_Duration m y (by omega) _) ?_)
  rintro e st' ⟨rfl, rfl⟩
  (refine AOpsC_ok hK' _ _ _ ?_; (repeat simp (disch := omega) only [go_sem, redN, Nat.reduceAdd, Int.reduceToNat, Int.reducePow]); (repeat' refine And.intro ?_ ?_); (try any_goals (first | (refine hK _ _ ?_; clear hK' hQ hK Q' Kn) | (intro hq9; refine ⟨hq9, ?_⟩; simp only [redB] at hq9; omega) | (intro hq9; refine ⟨hq9, fun hq8 => ?_⟩; rw [hq9, hq8]; rfl) | (simp; done) | omega | (simp only [redL]; omega) | (simp; omega) | (intros; (repeat' refine And.intro ?_ ?_) <;> (first | assumption | omega | (simp; done))))))
  (repeat' (first | refine AW.seq ?_ | refine AW.scope ?_ | refine AW.label ?_ | refine AW.block ?_ | refine AW.skip ?_ | refine AW.exit ?_ | refine AW.ret ?_))
  (refine AW.regionC fun Q' Kn hQ hK hK' => ?_; (repeat simp (disch := omega) only [go_sem, redN, Nat.reduceAdd, Int.reduceToNat, Int.reducePow]); (repeat' refine And.intro ?_ ?_); (try any_goals (first | (refine hK _ _ ?_; clear hK' hQ hK Q' Kn) | (intro hq9; refine ⟨hq9, ?_⟩; simp only [redB] at hq9; omega) | (intro hq9; refine ⟨hq9, fun hq8 => ?_⟩; rw [hq9, hq8]; rfl) | (simp; done) | omega | (simp only [redL]; omega) | (simp; omega) | (intros; (repeat' refine And.intro ?_ ?_) <;> (first | assumption | omega | (simp; done))))))
  (repeat' (first | refine AW.seq ?_ | refine AW.scope ?_ | refine AW.label ?_ | refine AW.block ?_ | refine AW.skip ?_ | refine AW.exit ?_ | refine AW.ret ?_))
  refine AW.cutE (fun n : Int => [.junk, .junk, .ptr b 0 0 0, .int .i64 0, .junk, .junk, .junk, .fptr [.int .i64 (timeF x).1.1, .bool (timeF x).1.2.1, .bool (timeF x).1.2.2], .junk, .int .i64 n, .junk, .junk, .junk, .junk, .junk, .junk, .junk, .junk, .junk, .junk, .junk, .junk, .junk, .junk, .junk, .junk, .junk, .junk, .junk, .junk, .junk, .junk, .junk, .junk, .junk, .junk, .junk, .junk, .junk, .junk, .junk, .junk, .junk, .junk, .junk, .junk, .junk, .junk, .junk, .junk, .junk, .junk, .junk, .junk, .junk, .junk, .junk, .junk, .junk, .junk, .junk, .junk, .junk, .junk, .junk, .junk, .junk, .junk, .junk, .junk, .junk]) (fun _ => st')
    (fun n => -900000000000000 ≤ n ∧ n ≤ 900000000000000 ∧ periodC x y ok = if n < 0 then (((0, false, false), 0), 10) else (((timeF x).1, n), 0)) ?_ ?_
  · (refine AW.cond (by simp (disch := omega) only [go_sem, redN, Nat.reduceAdd, Int.reduceToNat, Int.reducePow]; rfl) (fun hb => ?_) (fun hb => ?_) <;> (try simp only [redB] at hb))
    · skip
      (repeat' (first | refine AW.seq ?_ | refine AW.scope ?_ | refine AW.label ?_ | refine AW.block ?_ | refine AW.skip ?_ | refine AW.exit ?_ | refine AW.ret ?_))
      (refine AW.regionC fun Q' Kn hQ hK hK' => ?_; (repeat simp (disch := omega) only [go_sem, redN, Nat.reduceAdd, Int.reduceToNat, Int.reducePow]); (repeat' refine And.intro ?_ ?_); (try any_goals (first | (refine hK _ _ ?_; clear hK' hQ hK Q' Kn) | (intro hq9; refine ⟨hq9, ?_⟩; simp only [redB] at hq9; omega) | (intro hq9; refine ⟨hq9, fun hq8 => ?_⟩; rw [hq9, hq8]; rfl) | (simp; done) | omega | (simp only [redL]; omega) | (simp; omega) | (intros; (repeat' refine And.intro ?_ ?_) <;> (first | assumption | omega | (simp; done))))))
      refine AOp.call rfl (by simp only [go_sem]; rfl) (by simp [go_sem]) rfl (ACalls.mono (by simp only [go_sem]; exact t_Time m y (by omega) _) ?_)
      rintro e st' ⟨rfl, rfl⟩
      (refine AOpsC_ok hK' _ _ _ ?_; (repeat simp (disch := omega) only [go_sem, redN, Nat.reduceAdd, Int.reduceToNat, Int.reducePow]); (repeat' refine And.intro ?_ ?_); (try any_goals (first | (refine hK _ _ ?_; clear hK' hQ hK Q' Kn) | (intro hq9; refine ⟨hq9, ?_⟩; simp only [redB] at hq9; omega) | (intro hq9; refine ⟨hq9, fun hq8 => ?_⟩; rw [hq9, hq8]; rfl) | (simp; done) | omega | (simp only [redL]; omega) | (simp; omega) | (intros; (repeat' refine And.intro ?_ ?_) <;> (first | assumption | omega | (simp; done))))))
      refine AOp.alloc rfl (by simp only [go_sem]; rfl) fun b10 hb10 => ?_
      (refine AOpsC_ok hK' _ _ _ ?_; (repeat simp (disch := omega) only [go_sem, redN, Nat.reduceAdd, Int.reduceToNat, Int.reducePow]); (repeat' refine And.intro ?_ ?_); (try any_goals (first | (refine hK _ _ ?_; clear hK' hQ hK Q' Kn) | (intro hq9; refine ⟨hq9, ?_⟩; simp only [redB] at hq9; omega) | (intro hq9; refine ⟨hq9, fun hq8 => ?_⟩; rw [hq9, hq8]; rfl) | (simp; done) | omega | (simp only [redL]; omega) | (simp; omega) | (intros; (repeat' refine And.intro ?_ ?_) <;> (first | assumption | omega | (simp; done))))))
      refine AOp.storeAll (cs := [.int .i64 (timeF y).1.1, .bool (timeF y).1.2.1, .bool (timeF y).1.2.2]) rfl (by simp only [go_sem] <;> rfl) (by simp [go_sem]) (St.set_same _ _ _) (by first | (simp only [go_sem]; done) | (simp [go_sem]; done) | (simp [go_sem]; omega)) (by simp [go_sem, isCell]) rfl rfl rfl ?_
      (refine AOpsC_ok hK' _ _ _ ?_; (repeat simp (disch := omega) only [go_sem, redN, Nat.reduceAdd, Int.reduceToNat, Int.reducePow]); (repeat' refine And.intro ?_ ?_); (try any_goals (first | (refine hK _ _ ?_; clear hK' hQ hK Q' Kn) | (intro hq9; refine ⟨hq9, ?_⟩; simp only [redB] at hq9; omega) | (intro hq9; refine ⟨hq9, fun hq8 => ?_⟩; rw [hq9, hq8]; rfl) | (simp; done) | omega | (simp only [redL]; omega) | (simp; omega) | (intros; (repeat' refine And.intro ?_ ?_) <;> (first | assumption | omega | (simp; done))))))
      rw [St.set_set]
      refine AW.freeze 10 rfl (St.set_same _ _ _) ?_
      rw [St.del_set _ _ hb10]
      have hD := hb
      (repeat' (first | refine AW.seq ?_ | refine AW.scope ?_ | refine AW.label ?_ | refine AW.block ?_ | refine AW.skip ?_ | refine AW.exit ?_ | refine AW.ret ?_))
      (refine AW.regionC fun Q' Kn hQ hK hK' => ?_; (repeat simp (disch := omega) only [go_sem, redN, Nat.reduceAdd, Int.reduceToNat, Int.reducePow]); (repeat' refine And.intro ?_ ?_); (try any_goals (first | (refine hK _ _ ?_; clear hK' hQ hK Q' Kn) | (intro hq9; refine ⟨hq9, ?_⟩; simp only [redB] at hq9; omega) | (intro hq9; refine ⟨hq9, fun hq8 => ?_⟩; rw [hq9, hq8]; rfl) | (simp; done) | omega | (simp only [redL]; omega) | (simp; omega) | (intros; (repeat' refine And.intro ?_ ?_) <;> (first | assumption | omega | (simp; done))))))
      (repeat' (first | refine AW.seq ?_ | refine AW.scope ?_ | refine AW.label ?_ | refine AW.block ?_ | refine AW.skip ?_ | refine AW.exit ?_ | refine AW.ret ?_))
      (refine AW.cond (by simp (disch := omega) only [go_sem, redN, Nat.reduceAdd, Int.reduceToNat, Int.reducePow]; rfl) (fun hb => ?_) (fun hb => ?_) <;> (try simp only [redB] at hb))
      · skip
        (repeat' (first | refine AW.seq ?_ | refine AW.scope ?_ | refine AW.label ?_ | refine AW.block ?_ | refine AW.skip ?_ | refine AW.exit ?_ | refine AW.ret ?_))
        (refine AW.regionC fun Q' Kn hQ hK hK' => ?_; (repeat simp (disch := omega) only [go_sem, redN, Nat.reduceAdd, Int.reduceToNat, Int.reducePow]); (repeat' refine And.intro ?_ ?_); (try any_goals (first | (refine hK _ _ ?_; clear hK' hQ hK Q' Kn) | (intro hq9; refine ⟨hq9, ?_⟩; simp only [redB] at hq9; omega) | (intro hq9; refine ⟨hq9, fun hq8 => ?_⟩; rw [hq9, hq8]; rfl) | (simp; done) | omega | (simp only [redL]; omega) | (simp; omega) | (intros; (repeat' refine And.intro ?_ ?_) <;> (first | assumption | omega | (simp; done))))))
        refine AOp.storeAll (cs := [.int .i64 0, .bool false, .bool false, .int .i64 0]) rfl (by simp only [go_sem] <;> rfl) (by simp [go_sem]) (m1.get 0 rfl) (by first | (simp only [go_sem]; done) | (simp [go_sem]; done) | (simp [go_sem]; omega)) (by simp [go_sem, isCell]) rfl rfl rfl ?_
        (refine AOpsC_ok hK' _ _ _ ?_; (repeat simp (disch := omega) only [go_sem, redN, Nat.reduceAdd, Int.reduceToNat, Int.reducePow]); (repeat' refine And.intro ?_ ?_); (try any_goals (first | (refine hK _ _ ?_; clear hK' hQ hK Q' Kn) | (intro hq9; refine ⟨hq9, ?_⟩; simp only [redB] at hq9; omega) | (intro hq9; refine ⟨hq9, fun hq8 => ?_⟩; rw [hq9, hq8]; rfl) | (simp; done) | omega | (simp only [redL]; omega) | (simp; omega) | (intros; (repeat' refine And.intro ?_ ?_) <;> (first | assumption | omega | (simp; done))))))
        (repeat' (first | refine AW.seq ?_ | refine AW.scope ?_ | refine AW.label ?_ | refine AW.block ?_ | refine AW.skip ?_ | refine AW.exit ?_ | refine AW.ret ?_ | (refine AW.regionC fun Q' Kn hQ hK hK' => ?_; (repeat simp (disch := omega) only [go_sem, redN, Nat.reduceAdd, Int.reduceToNat, Int.reducePow]); (repeat' refine And.intro ?_ ?_); (try any_goals (first | (refine hK _ _ ?_; clear hK' hQ hK Q' Kn) | (intro hq9; refine ⟨hq9, ?_⟩; simp only [redB] at hq9; omega) | (intro hq9; refine ⟨hq9, fun hq8 => ?_⟩; rw [hq9, hq8]; rfl) | (simp; done) | omega | (simp only [redL]; omega) | (simp; omega) | (intros; (repeat' refine And.intro ?_ ?_) <;> (first | assumption | omega | (simp; done)))))) | (refine AW.cond (by simp (disch := omega) only [go_sem, redN, Nat.reduceAdd, Int.reduceToNat, Int.reducePow]; rfl) (fun hb => ?_) (fun hb => ?_) <;> (try simp only [redB] at hb))))
        (try simp only [AThen])
        refine ABody.ofRess (vs := [.agg [.int .i64 0, .bool false, .bool false, .int .i64 0], .int .i64 10]) rfl (aRess_cell (aLoad_all (St.set_same _ _ _) rfl rfl rfl) (aRess_tmp aRess_nil)) ?_
        refine ⟨(m1.put 0 rfl _).sub, ?_⟩
        rw [hF, periodC_no2 hA hD hb]
        rfl
      (repeat' (first | refine AW.seq ?_ | refine AW.scope ?_ | refine AW.label ?_ | refine AW.block ?_ | refine AW.skip ?_ | refine AW.exit ?_ | refine AW.ret ?_))
      (refine AW.regionC fun Q' Kn hQ hK hK' => ?_; (repeat simp (disch := omega) only [go_sem, redN, Nat.reduceAdd, Int.reduceToNat, Int.reducePow]); (repeat' refine And.intro ?_ ?_); (try any_goals (first | (refine hK _ _ ?_; clear hK' hQ hK Q' Kn) | (intro hq9; refine ⟨hq9, ?_⟩; simp only [redB] at hq9; omega) | (intro hq9; refine ⟨hq9, fun hq8 => ?_⟩; rw [hq9, hq8]; rfl) | (simp; done) | omega | (simp only [redL]; omega) | (simp; omega) | (intros; (repeat' refine And.intro ?_ ?_) <;> (first | assumption | omega | (simp; done))))))
      (try simp only [AThen])
      refine ⟨(timeF y).1.1 - (timeF x).1.1, ⟨by omega, by omega, periodC_end hA hD hb⟩, ?_, trivial, trivial⟩
      · (repeat (first | exact Weak.nil | refine Weak.junk _ ?_ | refine Weak.same _ ?_ | refine Weak.eqv (by (congr 1; first | omega | (simp; done) | exact w_i64 (by omega) (by omega))) ?_))
    · (repeat' (first | refine AW.seq ?_ | refine AW.scope ?_ | refine AW.label ?_ | refine AW.block ?_ | refine AW.skip ?_ | refine AW.exit ?_ | refine AW.ret ?_))
      refine ⟨(durF y).1, ⟨by omega, by omega, periodC_dur hA hb⟩, ?_, rfl, rfl⟩
      · (repeat (first | exact Weak.nil | refine Weak.junk _ ?_ | refine Weak.same _ ?_ | refine Weak.eqv (by (congr 1; first | omega | (simp; done) | exact w_i64 (by omega) (by omega))) ?_))
  rintro n ⟨n1, n2, hn⟩
  (repeat' (first | refine AW.seq ?_ | refine AW.scope ?_ | refine AW.label ?_ | refine AW.block ?_ | refine AW.skip ?_ | refine AW.exit ?_ | refine AW.ret ?_))
  (refine AW.regionC fun Q' Kn hQ hK hK' => ?_; (repeat simp (disch := omega) only [go_sem, redN, Nat.reduceAdd, Int.reduceToNat, Int.reducePow]); (repeat' refine And.intro ?_ ?_); (try any_goals (first | (refine hK _ _ ?_; clear hK' hQ hK Q' Kn) | (intro hq9; refine ⟨hq9, ?_⟩; simp only [redB] at hq9; omega) | (intro hq9; refine ⟨hq9, fun hq8 => ?_⟩; rw [hq9, hq8]; rfl) | (simp; done) | omega | (simp only [redL]; omega) | (simp; omega) | (intros; (repeat' refine And.intro ?_ ?_) <;> (first | assumption | omega | (simp; done))))))
  (repeat' (first | refine AW.seq ?_ | refine AW.scope ?_ | refine AW.label ?_ | refine AW.block ?_ | refine AW.skip ?_ | refine AW.exit ?_ | refine AW.ret ?_))
  (refine AW.cond (by simp (disch := omega) only [go_sem, redN, Nat.reduceAdd, Int.reduceToNat, Int.reducePow]; rfl) (fun hb => ?_) (fun hb => ?_) <;> (try simp only [redB] at hb))
  · skip
    (repeat' (first | refine AW.seq ?_ | refine AW.scope ?_ | refine AW.label ?_ | refine AW.block ?_ | refine AW.skip ?_ | refine AW.exit ?_ | refine AW.ret ?_))
    (refine AW.regionC fun Q' Kn hQ hK hK' => ?_; (repeat simp (disch := omega) only [go_sem, redN, Nat.reduceAdd, Int.reduceToNat, Int.reducePow]); (repeat' refine And.intro ?_ ?_); (try any_goals (first | (refine hK _ _ ?_; clear hK' hQ hK Q' Kn) | (intro hq9; refine ⟨hq9, ?_⟩; simp only [redB] at hq9; omega) | (intro hq9; refine ⟨hq9, fun hq8 => ?_⟩; rw [hq9, hq8]; rfl) | (simp; done) | omega | (simp only [redL]; omega) | (simp; omega) | (intros; (repeat' refine And.intro ?_ ?_) <;> (first | assumption | omega | (simp; done))))))
    refine AOp.storeAll (cs := [.int .i64 0, .bool false, .bool false, .int .i64 0]) rfl (by simp only [go_sem] <;> rfl) (by simp [go_sem]) (m1.get 0 rfl) (by first | (simp only [go_sem]; done) | (simp [go_sem]; done) | (simp [go_sem]; omega)) (by simp [go_sem, isCell]) rfl rfl rfl ?_
    (refine AOpsC_ok hK' _ _ _ ?_; (repeat simp (disch := omega) only [go_sem, redN, Nat.reduceAdd, Int.reduceToNat, Int.reducePow]); (repeat' refine And.intro ?_ ?_); (try any_goals (first | (refine hK _ _ ?_; clear hK' hQ hK Q' Kn) | (intro hq9; refine ⟨hq9, ?_⟩; simp only [redB] at hq9; omega) | (intro hq9; refine ⟨hq9, fun hq8 => ?_⟩; rw [hq9, hq8]; rfl) | (simp; done) | omega | (simp only [redL]; omega) | (simp; omega) | (intros; (repeat' refine And.intro ?_ ?_) <;> (first | assumption | omega | (simp; done))))))
    (repeat' (first | refine AW.seq ?_ | refine AW.scope ?_ | refine AW.label ?_ | refine AW.block ?_ | refine AW.skip ?_ | refine AW.exit ?_ | refine AW.ret ?_ | (refine AW.regionC fun Q' Kn hQ hK hK' => ?_; (repeat simp (disch := omega) only [go_sem, redN, Nat.reduceAdd, Int.reduceToNat, Int.reducePow]); (repeat' refine And.intro ?_ ?_); (try any_goals (first | (refine hK _ _ ?_; clear hK' hQ hK Q' Kn) | (intro hq9; refine ⟨hq9, ?_⟩; simp only [redB] at hq9; omega) | (intro hq9; refine ⟨hq9, fun hq8 => ?_⟩; rw [hq9, hq8]; rfl) | (simp; done) | omega | (simp only [redL]; omega) | (simp; omega) | (intros; (repeat' refine And.intro ?_ ?_) <;> (first | assumption | omega | (simp; done)))))) | (refine AW.cond (by simp (disch := omega) only [go_sem, redN, Nat.reduceAdd, Int.reduceToNat, Int.reducePow]; rfl) (fun hb => ?_) (fun hb => ?_) <;> (try simp only [redB] at hb))))
    (try simp only [AThen])
    refine ABody.ofRess (vs := [.agg [.int .i64 0, .bool false, .bool false, .int .i64 0], .int .i64 10]) rfl (aRess_cell (aLoad_all (St.set_same _ _ _) rfl rfl rfl) (aRess_tmp aRess_nil)) ?_
    refine ⟨(m1.put 0 rfl _).sub, ?_⟩
    rw [hF, hn, if_pos hb]
    rfl
  · skip
    (repeat' (first | refine AW.seq ?_ | refine AW.scope ?_ | refine AW.label ?_ | refine AW.block ?_ | refine AW.skip ?_ | refine AW.exit ?_ | refine AW.ret ?_))
    (refine AW.regionC fun Q' Kn hQ hK hK' => ?_; (repeat simp (disch := omega) only [go_sem, redN, Nat.reduceAdd, Int.reduceToNat, Int.reducePow]); (repeat' refine And.intro ?_ ?_); (try any_goals (first | (refine hK _ _ ?_; clear hK' hQ hK Q' Kn) | (intro hq9; refine ⟨hq9, ?_⟩; simp only [redB] at hq9; omega) | (intro hq9; refine ⟨hq9, fun hq8 => ?_⟩; rw [hq9, hq8]; rfl) | (simp; done) | omega | (simp only [redL]; omega) | (simp; omega) | (intros; (repeat' refine And.intro ?_ ?_) <;> (first | assumption | omega | (simp; done))))))
    refine AOp.storeAll (cs := [.int .i64 (timeF x).1.1, .bool (timeF x).1.2.1, .bool (timeF x).1.2.2, .int .i64 (n)]) rfl (by simp only [go_sem] <;> rfl) (by simp [go_sem]) (m1.get 0 rfl) (by first | (simp only [go_sem]; done) | (simp [go_sem]; done) | (simp [go_sem]; omega)) (by simp [go_sem, isCell]) rfl rfl rfl ?_
    (refine AOpsC_ok hK' _ _ _ ?_; (repeat simp (disch := omega) only [go_sem, redN, Nat.reduceAdd, Int.reduceToNat, Int.reducePow]); (repeat' refine And.intro ?_ ?_); (try any_goals (first | (refine hK _ _ ?_; clear hK' hQ hK Q' Kn) | (intro hq9; refine ⟨hq9, ?_⟩; simp only [redB] at hq9; omega) | (intro hq9; refine ⟨hq9, fun hq8 => ?_⟩; rw [hq9, hq8]; rfl) | (simp; done) | omega | (simp only [redL]; omega) | (simp; omega) | (intros; (repeat' refine And.intro ?_ ?_) <;> (first | assumption | omega | (simp; done))))))
    (repeat' (first | refine AW.seq ?_ | refine AW.scope ?_ | refine AW.label ?_ | refine AW.block ?_ | refine AW.skip ?_ | refine AW.exit ?_ | refine AW.ret ?_ | (refine AW.regionC fun Q' Kn hQ hK hK' => ?_; (repeat simp (disch := omega) only [go_sem, redN, Nat.reduceAdd, Int.reduceToNat, Int.reducePow]); (repeat' refine And.intro ?_ ?_); (try any_goals (first | (refine hK _ _ ?_; clear hK' hQ hK Q' Kn) | (intro hq9; refine ⟨hq9, ?_⟩; simp only [redB] at hq9; omega) | (intro hq9; refine ⟨hq9, fun hq8 => ?_⟩; rw [hq9, hq8]; rfl) | (simp; done) | omega | (simp only [redL]; omega) | (simp; omega) | (intros; (repeat' refine And.intro ?_ ?_) <;> (first | assumption | omega | (simp; done)))))) | (refine AW.cond (by simp (disch := omega) only [go_sem, redN, Nat.reduceAdd, Int.reduceToNat, Int.reducePow]; rfl) (fun hb => ?_) (fun hb => ?_) <;> (try simp only [redB] at hb))))
    (try simp only [AThen])
    refine ABody.ofRess (vs := [.agg [.int .i64 (timeF x).1.1, .bool (timeF x).1.2.1, .bool (timeF x).1.2.2, .int .i64 (n)], .int .i64 0]) rfl (aRess_cell (aLoad_all (St.set_same _ _ _) rfl rfl rfl) (aRess_tmp aRess_nil)) ?_
    refine ⟨(m1.put 0 rfl _).sub, ?_⟩
    rw [hF, hn, if_neg hb]
    rfl
end Go.Almanac

/- Values: a period is read, as the document reads it. -/
namespace Go.Almanac
open Go.RowKit Go.Proofs Go.Abs

set_option linter.unusedSimpArgs false
set_option linter.unusedVariables false
set_option linter.unusedSectionVars false
set_option maxRecDepth 10000
set_option maxHeartbeats 1000000

theorem r_DurationF (G : Nat → AV) (s : List UInt8) (hs : s.length ≤ 1048576) (st : St) : ACalls (Ev G) 27 [.str s] st (fun e st' => st' = st ∧ e = .ret (.tup [.int .i64 (durF s).1, .int .i64 (durF s).2])) := by
  have := r_Duration G s hs st
  rw [dur_eq] at this
  exact this
theorem periodC_bad {a b : List UInt8} {ok : Bool} (h : (ok = true ∧ (timeF a).2 = 0) ∧ (timeF a).1.2.2 = false) (h2 : ¬ (durF b).2 = 0) (h3 : ((¬ (timeF b).2 = 0 ∨ (timeF b).1.2.2 = true) ∨ ¬ (timeF b).1.2.1 = (timeF a).1.2.1) ∨ (timeF b).1.1 < (timeF a).1.1) : periodC a b ok = (((0, false, false), 0), 10) := by
  rw [periodC, if_neg (by simp [h.1.1, h.1.2, h.2]), if_neg h2, if_pos (by rcases h3 with ((h | h) | h) | h; exact .inl h; exact .inr (.inl h); exact .inr (.inr (.inl h)); exact .inr (.inr (.inr h)))]
theorem periodC_good {a b : List UInt8} {ok : Bool} (h : (ok = true ∧ (timeF a).2 = 0) ∧ (timeF a).1.2.2 = false) (h2 : ¬ (durF b).2 = 0) (h3 : (((timeF b).2 = 0 ∧ (timeF b).1.2.2 = false) ∧ (timeF b).1.2.1 = (timeF a).1.2.1) ∧ ¬ (timeF b).1.1 < (timeF a).1.1) : periodC a b ok = (((timeF a).1, (timeF b).1.1 - (timeF a).1.1), 0) := by
  rw [periodC, if_neg (by simp [h.1.1, h.1.2, h.2]), if_neg h2, if_neg (by simp only [h3.1.1.1, h3.1.1.2, h3.1.2]; simp; omega)]
attribute [local go_sem] whenE
theorem r_Period (G : Nat → AV) (s : List UInt8) (hs : s.length ≤ 1048576) (st : St) : ACalls (Ev G) 37 [.str s] st (fun e st' => st' = st ∧ e = .ret (.tup [.agg (periodE (periodF s).1), .int .i64 (periodF s).2])) := by
  refine ACalls.thaw (R' := fun e st' => st.sub st' ∧ e = .ret (.tup [.agg (periodE (periodF s).1), .int .i64 (periodF s).2])) ?_ (fun x st1 h => ⟨2, st, h.1, rfl, by rw [h.2]; rfl⟩)
  refine ACalls.of_body Tryz.func37 rfl ?_
  rw [Tryz.ntmps37]
  simp only [List.length_cons, List.length_nil, Nat.reduceAdd, Nat.reduceSub, List.replicate_succ, List.replicate_zero, List.cons_append, List.nil_append]
  (repeat' (first | refine AW.seq ?_ | refine AW.scope ?_ | refine AW.label ?_ | refine AW.block ?_ | refine AW.skip ?_ | refine AW.exit ?_ | refine AW.ret ?_))
  (refine AW.regionC fun Q' Kn hQ hK hK' => ?_; (repeat simp (disch := omega) only [go_sem, redN, Nat.reduceAdd, Int.reduceToNat, Int.reducePow]); (repeat' refine And.intro ?_ ?_); (try any_goals (first | (refine hK _ _ ?_; clear hK' hQ hK Q' Kn) | (intro hq9; refine ⟨hq9, ?_⟩; simp only [redB] at hq9; omega) | (intro hq9; refine ⟨hq9, fun hq8 => ?_⟩; rw [hq9, hq8]; rfl) | (simp; done) | omega | (simp only [redL]; omega) | (simp; omega) | (intros; (repeat' refine And.intro ?_ ?_) <;> (first | assumption | omega | (simp; done))))))
  refine AOp.alloc rfl (by simp only [go_sem]; rfl) fun b hb0 => ?_
  (refine AOpsC_ok hK' _ _ _ ?_; (repeat simp (disch := omega) only [go_sem, redN, Nat.reduceAdd, Int.reduceToNat, Int.reducePow]); (repeat' refine And.intro ?_ ?_); (try any_goals (first | (refine hK _ _ ?_; clear hK' hQ hK Q' Kn) | (intro hq9; refine ⟨hq9, ?_⟩; simp only [redB] at hq9; omega) | (intro hq9; refine ⟨hq9, fun hq8 => ?_⟩; rw [hq9, hq8]; rfl) | (simp; done) | omega | (simp only [redL]; omega) | (simp; omega) | (intros; (repeat' refine And.intro ?_ ?_) <;> (first | assumption | omega | (simp; done))))))
  have m1 := (MM.nil st).new hb0 (.cells 67 0 4 [[.int .i64 0, .bool false, .bool false, .int .i64 0]])
  generalize St.set st b _ = σ1 at m1 ⊢
  (repeat' (first | refine AW.seq ?_ | refine AW.scope ?_ | refine AW.label ?_ | refine AW.block ?_ | refine AW.skip ?_ | refine AW.exit ?_ | refine AW.ret ?_))
  (refine AW.regionC fun Q' Kn hQ hK hK' => ?_; (repeat simp (disch := omega) only [go_sem, redN, Nat.reduceAdd, Int.reduceToNat, Int.reducePow]); (repeat' refine And.intro ?_ ?_); (try any_goals (first | (refine hK _ _ ?_; clear hK' hQ hK Q' Kn) | (intro hq9; refine ⟨hq9, ?_⟩; simp only [redB] at hq9; omega) | (intro hq9; refine ⟨hq9, fun hq8 => ?_⟩; rw [hq9, hq8]; rfl) | (simp; done) | omega | (simp only [redL]; omega) | (simp; omega) | (intros; (repeat' refine And.intro ?_ ?_) <;> (first | assumption | omega | (simp; done))))))
  refine AOp.call rfl (by simp only [go_sem]; rfl) (by simp [go_sem]) rfl (ACalls.mono (by simp only [go_sem]; exact r_Cut G s 47 hs _) ?_)
  rintro e st' ⟨rfl, rfl⟩
  (refine AOpsC_ok hK' _ _ _ ?_; (repeat simp (disch := omega) only [go_sem, redN, Nat.reduceAdd, Int.reduceToNat, Int.reducePow]); (repeat' refine And.intro ?_ ?_); (try any_goals (first | (refine hK _ _ ?_; clear hK' hQ hK Q' Kn) | (intro hq9; refine ⟨hq9, ?_⟩; simp only [redB] at hq9; omega) | (intro hq9; refine ⟨hq9, fun hq8 => ?_⟩; rw [hq9, hq8]; rfl) | (simp; done) | omega | (simp only [redL]; omega) | (simp; omega) | (intros; (repeat' refine And.intro ?_ ?_) <;> (first | assumption | omega | (simp; done))))))
  have hF : periodF s = periodC (Lib.cut s [47]).1 (Lib.cut s [47]).2.1 (Lib.cut s [47]).2.2 := rfl
  obtain ⟨hl1, hl2⟩ := cut_le s [47]
  generalize (Lib.cut s [47]).1 = x at *
  generalize (Lib.cut s [47]).2.1 = y at *
  generalize (Lib.cut s [47]).2.2 = ok at *
  have hx := timeF_bounds x
  have hy := timeF_bounds y
  have hd := durF_bounds y
  (repeat' (first | refine AW.seq ?_ | refine AW.scope ?_ | refine AW.label ?_ | refine AW.block ?_ | refine AW.skip ?_ | refine AW.exit ?_ | refine AW.ret ?_))
  (refine AW.regionC fun Q' Kn hQ hK hK' => ?_; (repeat simp (disch := omega) only [go_sem, redN, Nat.reduceAdd, Int.reduceToNat, Int.reducePow]); (repeat' refine And.intro ?_ ?_); (try any_goals (first | (refine hK _ _ ?_; clear hK' hQ hK Q' Kn) | (intro hq9; refine ⟨hq9, ?_⟩; simp only [redB] at hq9; omega) | (intro hq9; refine ⟨hq9, fun hq8 => ?_⟩; rw [hq9, hq8]; rfl) | (simp; done) | omega | (simp only [redL]; omega) | (simp; omega) | (intros; (repeat' refine And.intro ?_ ?_) <;> (first | assumption | omega | (simp; done))))))
  refine AOp.call rfl (by simp only [go_sem]; rfl) (by simp [go_sem]) rfl (ACalls.mono (by simp only [go_sem]; exact r_Time G x (by omega) _) ?_)
  rintro e st' ⟨rfl, rfl⟩
  (refine AOpsC_ok hK' _ _ _ ?_; (repeat simp (disch := omega) only [go_sem, redN, Nat.reduceAdd, Int.reduceToNat, Int.reducePow]); (repeat' refine And.intro ?_ ?_); (try any_goals (first | (refine hK _ _ ?_; clear hK' hQ hK Q' Kn) | (intro hq9; refine ⟨hq9, ?_⟩; simp only [redB] at hq9; omega) | (intro hq9; refine ⟨hq9, fun hq8 => ?_⟩; rw [hq9, hq8]; rfl) | (simp; done) | omega | (simp only [redL]; omega) | (simp; omega) | (intros; (repeat' refine And.intro ?_ ?_) <;> (first | assumption | omega | (simp; done))))))
  refine AOp.alloc rfl (by simp only [go_sem]; rfl) fun b7 hb7 => ?_
  (refine AOpsC_ok hK' _ _ _ ?_; (repeat simp (disch := omega) only [go_sem, redN, Nat.reduceAdd, Int.reduceToNat, Int.reducePow]); (repeat' refine And.intro ?_ ?_); (try any_goals (first | (refine hK _ _ ?_; clear hK' hQ hK Q' Kn) | (intro hq9; refine ⟨hq9, ?_⟩; simp only [redB] at hq9; omega) | (intro hq9; refine ⟨hq9, fun hq8 => ?_⟩; rw [hq9, hq8]; rfl) | (simp; done) | omega | (simp only [redL]; omega) | (simp; omega) | (intros; (repeat' refine And.intro ?_ ?_) <;> (first | assumption | omega | (simp; done))))))
  refine AOp.storeAll (cs := [.int .i64 (timeF x).1.1, .bool (timeF x).1.2.1, .bool (timeF x).1.2.2]) rfl (by simp only [go_sem] <;> rfl) (by simp [go_sem]) (St.set_same _ _ _) (by first | (simp only [go_sem]; done) | (simp [go_sem]; done) | (simp [go_sem]; omega)) (by simp [go_sem, isCell]) rfl rfl rfl ?_
  (refine AOpsC_ok hK' _ _ _ ?_; (repeat simp (disch := omega) only [go_sem, redN, Nat.reduceAdd, Int.reduceToNat, Int.reducePow]); (repeat' refine And.intro ?_ ?_); (try any_goals (first | (refine hK _ _ ?_; clear hK' hQ hK Q' Kn) | (intro hq9; refine ⟨hq9, ?_⟩; simp only [redB] at hq9; omega) | (intro hq9; refine ⟨hq9, fun hq8 => ?_⟩; rw [hq9, hq8]; rfl) | (simp; done) | omega | (simp only [redL]; omega) | (simp; omega) | (intros; (repeat' refine And.intro ?_ ?_) <;> (first | assumption | omega | (simp; done))))))
  rw [St.set_set]
  refine AW.freeze 7 rfl (St.set_same _ _ _) ?_
  rw [St.del_set _ _ hb7]
  (repeat' (first | refine AW.seq ?_ | refine AW.scope ?_ | refine AW.label ?_ | refine AW.block ?_ | refine AW.skip ?_ | refine AW.exit ?_ | refine AW.ret ?_))
  (refine AW.regionC fun Q' Kn hQ hK hK' => ?_; (repeat simp (disch := omega) only [go_sem, redN, Nat.reduceAdd, Int.reduceToNat, Int.reducePow]); (repeat' refine And.intro ?_ ?_); (try any_goals (first | (refine hK _ _ ?_; clear hK' hQ hK Q' Kn) | (intro hq9; refine ⟨hq9, ?_⟩; simp only [redB] at hq9; omega) | (intro hq9; refine ⟨hq9, fun hq8 => ?_⟩; rw [hq9, hq8]; rfl) | (simp; done) | omega | (simp only [redL]; omega) | (simp; omega) | (intros; (repeat' refine And.intro ?_ ?_) <;> (first | assumption | omega | (simp; done))))))
  (repeat' (first | refine AW.seq ?_ | refine AW.scope ?_ | refine AW.label ?_ | refine AW.block ?_ | refine AW.skip ?_ | refine AW.exit ?_ | refine AW.ret ?_))
  (refine AW.cond (by simp (disch := omega) only [go_sem, redN, Nat.reduceAdd, Int.reduceToNat, Int.reducePow]; rfl) (fun hb => ?_) (fun hb => ?_) <;> (try simp only [redB] at hb))
  · skip
    (repeat' (first | refine AW.seq ?_ | refine AW.scope ?_ | refine AW.label ?_ | refine AW.block ?_ | refine AW.skip ?_ | refine AW.exit ?_ | refine AW.ret ?_))
    (refine AW.regionC fun Q' Kn hQ hK hK' => ?_; (repeat simp (disch := omega) only [go_sem, redN, Nat.reduceAdd, Int.reduceToNat, Int.reducePow]); (repeat' refine And.intro ?_ ?_); (try any_goals (first | (refine hK _ _ ?_; clear hK' hQ hK Q' Kn) | (intro hq9; refine ⟨hq9, ?_⟩; simp only [redB] at hq9; omega) | (intro hq9; refine ⟨hq9, fun hq8 => ?_⟩; rw [hq9, hq8]; rfl) | (simp; done) | omega | (simp only [redL]; omega) | (simp; omega) | (intros; (repeat' refine And.intro ?_ ?_) <;> (first | assumption | omega | (simp; done))))))
    refine AOp.storeAll (cs := [.int .i64 0, .bool false, .bool false, .int .i64 0]) rfl (by simp only [go_sem] <;> rfl) (by simp [go_sem]) (m1.get 0 rfl) (by first | (simp only [go_sem]; done) | (simp [go_sem]; done) | (simp [go_sem]; omega)) (by simp [go_sem, isCell]) rfl rfl rfl ?_
    (refine AOpsC_ok hK' _ _ _ ?_; (repeat simp (disch := omega) only [go_sem, redN, Nat.reduceAdd, Int.reduceToNat, Int.reducePow]); (repeat' refine And.intro ?_ ?_); (try any_goals (first | (refine hK _ _ ?_; clear hK' hQ hK Q' Kn) | (intro hq9; refine ⟨hq9, ?_⟩; simp only [redB] at hq9; omega) | (intro hq9; refine ⟨hq9, fun hq8 => ?_⟩; rw [hq9, hq8]; rfl) | (simp; done) | omega | (simp only [redL]; omega) | (simp; omega) | (intros; (repeat' refine And.intro ?_ ?_) <;> (first | assumption | omega | (simp; done))))))
    (repeat' (first | refine AW.seq ?_ | refine AW.scope ?_ | refine AW.label ?_ | refine AW.block ?_ | refine AW.skip ?_ | refine AW.exit ?_ | refine AW.ret ?_ | (refine AW.regionC fun Q' Kn hQ hK hK' => ?_; (repeat simp (disch := omega) only [go_sem, redN, Nat.reduceAdd, Int.reduceToNat, Int.reducePow]); (repeat' refine And.intro ?_ ?_); (try any_goals (first | (refine hK _ _ ?_; clear hK' hQ hK Q' Kn) | (intro hq9; refine ⟨hq9, ?_⟩; simp only [redB] at hq9; omega) | (intro hq9; refine ⟨hq9, fun hq8 => ?_⟩; rw [hq9, hq8]; rfl) | (simp; done) | omega | (simp only [redL]; omega) | (simp; omega) | (intros; (repeat' refine And.intro ?_ ?_) <;> (first | assumption | omega | (simp; done)))))) | (refine AW.cond (by simp (disch := omega) only [go_sem, redN, Nat.reduceAdd, Int.reduceToNat, Int.reducePow]; rfl) (fun hb => ?_) (fun hb => ?_) <;> (try simp only [redB] at hb))))
    (try simp only [AThen])
    refine ABody.ofRess (vs := [.agg [.int .i64 0, .bool false, .bool false, .int .i64 0], .int .i64 10]) rfl (aRess_cell (aLoad_all (St.set_same _ _ _) rfl rfl rfl) (aRess_tmp aRess_nil)) ?_
    refine ⟨(m1.put 0 rfl _).sub, ?_⟩
    rw [hF, periodC_no hb]
    rfl
  have hA := hb
  (repeat' (first | refine AW.seq ?_ | refine AW.scope ?_ | refine AW.label ?_ | refine AW.block ?_ | refine AW.skip ?_ | refine AW.exit ?_ | refine AW.ret ?_))
  (refine AW.regionC fun Q' Kn hQ hK hK' => ?_; (repeat simp (disch := omega) only [go_sem, redN, Nat.reduceAdd, Int.reduceToNat, Int.reducePow]); (repeat' refine And.intro ?_ ?_); (try any_goals (first | (refine hK _ _ ?_; clear hK' hQ hK Q' Kn) | (intro hq9; refine ⟨hq9, ?_⟩; simp only [redB] at hq9; omega) | (intro hq9; refine ⟨hq9, fun hq8 => ?_⟩; rw [hq9, hq8]; rfl) | (simp; done) | omega | (simp only [redL]; omega) | (simp; omega) | (intros; (repeat' refine And.intro ?_ ?_) <;> (first | assumption | omega | (simp; done))))))
  refine AOp.call rfl (by simp only [go_sem]; rfl) (by simp [go_sem]) rfl (ACalls.mono (by simp only [go_sem]; exact r_DurationF G y (by omega) _) ?_)
  rintro e st' ⟨rfl, rfl⟩
  (refine AOpsC_ok hK' _ _ _ ?_; (repeat simp (disch := omega) only [go_sem, redN, Nat.reduceAdd, Int.reduceToNat, Int.reducePow]); (repeat' refine And.intro ?_ ?_); (try any_goals (first | (refine hK _ _ ?_; clear hK' hQ hK Q' Kn) | (intro hq9; refine ⟨hq9, ?_⟩; simp only [redB] at hq9; omega) | (intro hq9; refine ⟨hq9, fun hq8 => ?_⟩; rw [hq9, hq8]; rfl) | (simp; done) | omega | (simp only [redL]; omega) | (simp; omega) | (intros; (repeat' refine And.intro ?_ ?_) <;> (first | assumption | omega | (simp; done))))))
  (repeat' (first | refine AW.seq ?_ | refine AW.scope ?_ | refine AW.label ?_ | refine AW.block ?_ | refine AW.skip ?_ | refine AW.exit ?_ | refine AW.ret ?_))
  (refine AW.regionC fun Q' Kn hQ hK hK' => ?_; (repeat simp (disch := omega) only [go_sem, redN, Nat.reduceAdd, Int.reduceToNat, Int.reducePow]); (repeat' refine And.intro ?_ ?_); (try any_goals (first | (refine hK _ _ ?_; clear hK' hQ hK Q' Kn) | (intro hq9; refine ⟨hq9, ?_⟩; simp only [redB] at hq9; omega) | (intro hq9; refine ⟨hq9, fun hq8 => ?_⟩; rw [hq9, hq8]; rfl) | (simp; done) | omega | (simp only [redL]; omega) | (simp; omega) | (intros; (repeat' refine And.intro ?_ ?_) <;> (first | assumption | omega | (simp; done))))))
  (repeat' (first | refine AW.seq ?_ | refine AW.scope ?_ | refine AW.label ?_ | refine AW.block ?_ | refine AW.skip ?_ | refine AW.exit ?_ | refine AW.ret ?_))
  (refine AW.cond (by simp (disch := omega) only [go_sem, redN, Nat.reduceAdd, Int.reduceToNat, Int.reducePow]; rfl) (fun hb => ?_) (fun hb => ?_) <;> (try simp only [redB] at hb))
  · have hD := hb
    (repeat' (first | refine AW.seq ?_ | refine AW.scope ?_ | refine AW.label ?_ | refine AW.block ?_ | refine AW.skip ?_ | refine AW.exit ?_ | refine AW.ret ?_))
    (refine AW.regionC fun Q' Kn hQ hK hK' => ?_; (repeat simp (disch := omega) only [go_sem, redN, Nat.reduceAdd, Int.reduceToNat, Int.reducePow]); (repeat' refine And.intro ?_ ?_); (try any_goals (first | (refine hK _ _ ?_; clear hK' hQ hK Q' Kn) | (intro hq9; refine ⟨hq9, ?_⟩; simp only [redB] at hq9; omega) | (intro hq9; refine ⟨hq9, fun hq8 => ?_⟩; rw [hq9, hq8]; rfl) | (simp; done) | omega | (simp only [redL]; omega) | (simp; omega) | (intros; (repeat' refine And.intro ?_ ?_) <;> (first | assumption | omega | (simp; done))))))
    (repeat' (first | refine AW.seq ?_ | refine AW.scope ?_ | refine AW.label ?_ | refine AW.block ?_ | refine AW.skip ?_ | refine AW.exit ?_ | refine AW.ret ?_))
    (refine AW.cond (by simp (disch := omega) only [go_sem, redN, Nat.reduceAdd, Int.reduceToNat, Int.reducePow]; rfl) (fun hb => ?_) (fun hb => ?_) <;> (try simp only [redB] at hb))
    · skip
      (repeat' (first | refine AW.seq ?_ | refine AW.scope ?_ | refine AW.label ?_ | refine AW.block ?_ | refine AW.skip ?_ | refine AW.exit ?_ | refine AW.ret ?_))
      (refine AW.regionC fun Q' Kn hQ hK hK' => ?_; (repeat simp (disch := omega) only [go_sem, redN, Nat.reduceAdd, Int.reduceToNat, Int.reducePow]); (repeat' refine And.intro ?_ ?_); (try any_goals (first | (refine hK _ _ ?_; clear hK' hQ hK Q' Kn) | (intro hq9; refine ⟨hq9, ?_⟩; simp only [redB] at hq9; omega) | (intro hq9; refine ⟨hq9, fun hq8 => ?_⟩; rw [hq9, hq8]; rfl) | (simp; done) | omega | (simp only [redL]; omega) | (simp; omega) | (intros; (repeat' refine And.intro ?_ ?_) <;> (first | assumption | omega | (simp; done))))))
      refine AOp.storeAll (cs := [.int .i64 0, .bool false, .bool false, .int .i64 0]) rfl (by simp only [go_sem] <;> rfl) (by simp [go_sem]) (m1.get 0 rfl) (by first | (simp only [go_sem]; done) | (simp [go_sem]; done) | (simp [go_sem]; omega)) (by simp [go_sem, isCell]) rfl rfl rfl ?_
      (refine AOpsC_ok hK' _ _ _ ?_; (repeat simp (disch := omega) only [go_sem, redN, Nat.reduceAdd, Int.reduceToNat, Int.reducePow]); (repeat' refine And.intro ?_ ?_); (try any_goals (first | (refine hK _ _ ?_; clear hK' hQ hK Q' Kn) | (intro hq9; refine ⟨hq9, ?_⟩; simp only [redB] at hq9; omega) | (intro hq9; refine ⟨hq9, fun hq8 => ?_⟩; rw [hq9, hq8]; rfl) | (simp; done) | omega | (simp only [redL]; omega) | (simp; omega) | (intros; (repeat' refine And.intro ?_ ?_) <;> (first | assumption | omega | (simp; done))))))
      (repeat' (first | refine AW.seq ?_ | refine AW.scope ?_ | refine AW.label ?_ | refine AW.block ?_ | refine AW.skip ?_ | refine AW.exit ?_ | refine AW.ret ?_ | (refine AW.regionC fun Q' Kn hQ hK hK' => ?_; (repeat simp (disch := omega) only [go_sem, redN, Nat.reduceAdd, Int.reduceToNat, Int.reducePow]); (repeat' refine And.intro ?_ ?_); (try any_goals (first | (refine hK _ _ ?_; clear hK' hQ hK Q' Kn) | (intro hq9; refine ⟨hq9, ?_⟩; simp only [redB] at hq9; omega) | (intro hq9; refine ⟨hq9, fun hq8 => ?_⟩; rw [hq9, hq8]; rfl) | (simp; done) | omega | (simp only [redL]; omega) | (simp; omega) | (intros; (repeat' refine And.intro ?_ ?_) <;> (first | assumption | omega | (simp; done)))))) | (refine AW.cond (by simp (disch := omega) only [go_sem, redN, Nat.reduceAdd, Int.reduceToNat, Int.reducePow]; rfl) (fun hb => ?_) (fun hb => ?_) <;> (try simp only [redB] at hb))))
      (try simp only [AThen])
      refine ABody.ofRess (vs := [.agg [.int .i64 0, .bool false, .bool false, .int .i64 0], .int .i64 10]) rfl (aRess_cell (aLoad_all (St.set_same _ _ _) rfl rfl rfl) (aRess_tmp aRess_nil)) ?_
      refine ⟨(m1.put 0 rfl _).sub, ?_⟩
      rw [hF, periodC_dur hA hD, if_pos hb]
      rfl
    · skip
      (repeat' (first | refine AW.seq ?_ | refine AW.scope ?_ | refine AW.label ?_ | refine AW.block ?_ | refine AW.skip ?_ | refine AW.exit ?_ | refine AW.ret ?_))
      (refine AW.regionC fun Q' Kn hQ hK hK' => ?_; (repeat simp (disch := omega) only [go_sem, redN, Nat.reduceAdd, Int.reduceToNat, Int.reducePow]); (repeat' refine And.intro ?_ ?_); (try any_goals (first | (refine hK _ _ ?_; clear hK' hQ hK Q' Kn) | (intro hq9; refine ⟨hq9, ?_⟩; simp only [redB] at hq9; omega) | (intro hq9; refine ⟨hq9, fun hq8 => ?_⟩; rw [hq9, hq8]; rfl) | (simp; done) | omega | (simp only [redL]; omega) | (simp; omega) | (intros; (repeat' refine And.intro ?_ ?_) <;> (first | assumption | omega | (simp; done))))))
      refine AOp.storeAll (cs := [.int .i64 (timeF x).1.1, .bool (timeF x).1.2.1, .bool (timeF x).1.2.2, .int .i64 ((durF y).1)]) rfl (by simp only [go_sem] <;> rfl) (by simp [go_sem]) (m1.get 0 rfl) (by first | (simp only [go_sem]; done) | (simp [go_sem]; done) | (simp [go_sem]; omega)) (by simp [go_sem, isCell]) rfl rfl rfl ?_
      (refine AOpsC_ok hK' _ _ _ ?_; (repeat simp (disch := omega) only [go_sem, redN, Nat.reduceAdd, Int.reduceToNat, Int.reducePow]); (repeat' refine And.intro ?_ ?_); (try any_goals (first | (refine hK _ _ ?_; clear hK' hQ hK Q' Kn) | (intro hq9; refine ⟨hq9, ?_⟩; simp only [redB] at hq9; omega) | (intro hq9; refine ⟨hq9, fun hq8 => ?_⟩; rw [hq9, hq8]; rfl) | (simp; done) | omega | (simp only [redL]; omega) | (simp; omega) | (intros; (repeat' refine And.intro ?_ ?_) <;> (first | assumption | omega | (simp; done))))))
      (repeat' (first | refine AW.seq ?_ | refine AW.scope ?_ | refine AW.label ?_ | refine AW.block ?_ | refine AW.skip ?_ | refine AW.exit ?_ | refine AW.ret ?_ | (refine AW.regionC fun Q' Kn hQ hK hK' => ?_; (repeat simp (disch := omega) only [go_sem, redN, Nat.reduceAdd, Int.reduceToNat, Int.reducePow]); (repeat' refine And.intro ?_ ?_); (try any_goals (first | (refine hK _ _ ?_; clear hK' hQ hK Q' Kn) | (intro hq9; refine ⟨hq9, ?_⟩; simp only [redB] at hq9; omega) | (intro hq9; refine ⟨hq9, fun hq8 => ?_⟩; rw [hq9, hq8]; rfl) | (simp; done) | omega | (simp only [redL]; omega) | (simp; omega) | (intros; (repeat' refine And.intro ?_ ?_) <;> (first | assumption | omega | (simp; done)))))) | (refine AW.cond (by simp (disch := omega) only [go_sem, redN, Nat.reduceAdd, Int.reduceToNat, Int.reducePow]; rfl) (fun hb => ?_) (fun hb => ?_) <;> (try simp only [redB] at hb))))
      (try simp only [AThen])
      refine ABody.ofRess (vs := [.agg [.int .i64 (timeF x).1.1, .bool (timeF x).1.2.1, .bool (timeF x).1.2.2, .int .i64 ((durF y).1)], .int .i64 0]) rfl (aRess_cell (aLoad_all (St.set_same _ _ _) rfl rfl rfl) (aRess_tmp aRess_nil)) ?_
      refine ⟨(m1.put 0 rfl _).sub, ?_⟩
      rw [hF, periodC_dur hA hD, if_neg hb]
      rfl
  have hD := hb
  (repeat' (first | refine AW.seq ?_ | refine AW.scope ?_ | refine AW.label ?_ | refine AW.block ?_ | refine AW.skip ?_ | refine AW.exit ?_ | refine AW.ret ?_))
  (refine AW.regionC fun Q' Kn hQ hK hK' => ?_; (repeat simp (disch := omega) only [go_sem, redN, Nat.reduceAdd, Int.reduceToNat, Int.reducePow]); (repeat' refine And.intro ?_ ?_); (try any_goals (first | (refine hK _ _ ?_; clear hK' hQ hK Q' Kn) | (intro hq9; refine ⟨hq9, ?_⟩; simp only [redB] at hq9; omega) | (intro hq9; refine ⟨hq9, fun hq8 => ?_⟩; rw [hq9, hq8]; rfl) | (simp; done) | omega | (simp only [redL]; omega) | (simp; omega) | (intros; (repeat' refine And.intro ?_ ?_) <;> (first | assumption | omega | (simp; done))))))
  refine AOp.call rfl (by simp only [go_sem]; rfl) (by simp [go_sem]) rfl (ACalls.mono (by simp only [go_sem]; exact r_Time G y (by omega) _) ?_)
  rintro e st' ⟨rfl, rfl⟩
  (refine AOpsC_ok hK' _ _ _ ?_; (repeat simp (disch := omega) only [go_sem, redN, Nat.reduceAdd, Int.reduceToNat, Int.reducePow]); (repeat' refine And.intro ?_ ?_); (try any_goals (first | (refine hK _ _ ?_; clear hK' hQ hK Q' Kn) | (intro hq9; refine ⟨hq9, ?_⟩; simp only [redB] at hq9; omega) | (intro hq9; refine ⟨hq9, fun hq8 => ?_⟩; rw [hq9, hq8]; rfl) | (simp; done) | omega | (simp only [redL]; omega) | (simp; omega) | (intros; (repeat' refine And.intro ?_ ?_) <;> (first | assumption | omega | (simp; done))))))
  refine AOp.alloc rfl (by simp only [go_sem]; rfl) fun b10 hb10 => ?_
  (refine AOpsC_ok hK' _ _ _ ?_; (repeat simp (disch := omega) only [go_sem, redN, Nat.reduceAdd, Int.reduceToNat, Int.reducePow]); (repeat' refine And.intro ?_ ?_); (try any_goals (first | (refine hK _ _ ?_; clear hK' hQ hK Q' Kn) | (intro hq9; refine ⟨hq9, ?_⟩; simp only [redB] at hq9; omega) | (intro hq9; refine ⟨hq9, fun hq8 => ?_⟩; rw [hq9, hq8]; rfl) | (simp; done) | omega | (simp only [redL]; omega) | (simp; omega) | (intros; (repeat' refine And.intro ?_ ?_) <;> (first | assumption | omega | (simp; done))))))
  refine AOp.storeAll (cs := [.int .i64 (timeF y).1.1, .bool (timeF y).1.2.1, .bool (timeF y).1.2.2]) rfl (by simp only [go_sem] <;> rfl) (by simp [go_sem]) (St.set_same _ _ _) (by first | (simp only [go_sem]; done) | (simp [go_sem]; done) | (simp [go_sem]; omega)) (by simp [go_sem, isCell]) rfl rfl rfl ?_
  (refine AOpsC_ok hK' _ _ _ ?_; (repeat simp (disch := omega) only [go_sem, redN, Nat.reduceAdd, Int.reduceToNat, Int.reducePow]); (repeat' refine And.intro ?_ ?_); (try any_goals (first | (refine hK _ _ ?_; clear hK' hQ hK Q' Kn) | (intro hq9; refine ⟨hq9, ?_⟩; simp only [redB] at hq9; omega) | (intro hq9; refine ⟨hq9, fun hq8 => ?_⟩; rw [hq9, hq8]; rfl) | (simp; done) | omega | (simp only [redL]; omega) | (simp; omega) | (intros; (repeat' refine And.intro ?_ ?_) <;> (first | assumption | omega | (simp; done))))))
  rw [St.set_set]
  refine AW.freeze 10 rfl (St.set_same _ _ _) ?_
  rw [St.del_set _ _ hb10]
  (repeat' (first | refine AW.seq ?_ | refine AW.scope ?_ | refine AW.label ?_ | refine AW.block ?_ | refine AW.skip ?_ | refine AW.exit ?_ | refine AW.ret ?_))
  (refine AW.regionC fun Q' Kn hQ hK hK' => ?_; (repeat simp (disch := omega) only [go_sem, redN, Nat.reduceAdd, Int.reduceToNat, Int.reducePow]); (repeat' refine And.intro ?_ ?_); (try any_goals (first | (refine hK _ _ ?_; clear hK' hQ hK Q' Kn) | (intro hq9; refine ⟨hq9, ?_⟩; simp only [redB] at hq9; omega) | (intro hq9; refine ⟨hq9, fun hq8 => ?_⟩; rw [hq9, hq8]; rfl) | (simp; done) | omega | (simp only [redL]; omega) | (simp; omega) | (intros; (repeat' refine And.intro ?_ ?_) <;> (first | assumption | omega | (simp; done))))))
  (repeat' (first | refine AW.seq ?_ | refine AW.scope ?_ | refine AW.label ?_ | refine AW.block ?_ | refine AW.skip ?_ | refine AW.exit ?_ | refine AW.ret ?_))
  (refine AW.cond (by simp (disch := omega) only [go_sem, redN, Nat.reduceAdd, Int.reduceToNat, Int.reducePow]; rfl) (fun hb => ?_) (fun hb => ?_) <;> (try simp only [redB] at hb))
  · skip
    (repeat' (first | refine AW.seq ?_ | refine AW.scope ?_ | refine AW.label ?_ | refine AW.block ?_ | refine AW.skip ?_ | refine AW.exit ?_ | refine AW.ret ?_))
    (refine AW.regionC fun Q' Kn hQ hK hK' => ?_; (repeat simp (disch := omega) only [go_sem, redN, Nat.reduceAdd, Int.reduceToNat, Int.reducePow]); (repeat' refine And.intro ?_ ?_); (try any_goals (first | (refine hK _ _ ?_; clear hK' hQ hK Q' Kn) | (intro hq9; refine ⟨hq9, ?_⟩; simp only [redB] at hq9; omega) | (intro hq9; refine ⟨hq9, fun hq8 => ?_⟩; rw [hq9, hq8]; rfl) | (simp; done) | omega | (simp only [redL]; omega) | (simp; omega) | (intros; (repeat' refine And.intro ?_ ?_) <;> (first | assumption | omega | (simp; done))))))
    refine AOp.storeAll (cs := [.int .i64 0, .bool false, .bool false, .int .i64 0]) rfl (by simp only [go_sem] <;> rfl) (by simp [go_sem]) (m1.get 0 rfl) (by first | (simp only [go_sem]; done) | (simp [go_sem]; done) | (simp [go_sem]; omega)) (by simp [go_sem, isCell]) rfl rfl rfl ?_
    (refine AOpsC_ok hK' _ _ _ ?_; (repeat simp (disch := omega) only [go_sem, redN, Nat.reduceAdd, Int.reduceToNat, Int.reducePow]); (repeat' refine And.intro ?_ ?_); (try any_goals (first | (refine hK _ _ ?_; clear hK' hQ hK Q' Kn) | (intro hq9; refine ⟨hq9, ?_⟩; simp only [redB] at hq9; omega) | (intro hq9; refine ⟨hq9, fun hq8 => ?_⟩; rw [hq9, hq8]; rfl) | (simp; done) | omega | (simp only [redL]; omega) | (simp; omega) | (intros; (repeat' refine And.intro ?_ ?_) <;> (first | assumption | omega | (simp; done))))))
    (repeat' (first | refine AW.seq ?_ | refine AW.scope ?_ | refine AW.label ?_ | refine AW.block ?_ | refine AW.skip ?_ | refine AW.exit ?_ | refine AW.ret ?_ | (refine AW.regionC fun Q' Kn hQ hK hK' => ?_; (repeat simp (disch := omega) only [go_sem, redN, Nat.reduceAdd, Int.reduceToNat, Int.reducePow]); (repeat' refine And.intro ?_ ?_); (try any_goals (first | (refine hK _ _ ?_; clear hK' hQ hK Q' Kn) | (intro hq9; refine ⟨hq9, ?_⟩; simp only [redB] at hq9; omega) | (intro hq9; refine ⟨hq9, fun hq8 => ?_⟩; rw [hq9, hq8]; rfl) | (simp; done) | omega | (simp only [redL]; omega) | (simp; omega) | (intros; (repeat' refine And.intro ?_ ?_) <;> (first | assumption | omega | (simp; done)))))) | (refine AW.cond (by simp (disch := omega) only [go_sem, redN, Nat.reduceAdd, Int.reduceToNat, Int.reducePow]; rfl) (fun hb => ?_) (fun hb => ?_) <;> (try simp only [redB] at hb))))
    (try simp only [AThen])
    refine ABody.ofRess (vs := [.agg [.int .i64 0, .bool false, .bool false, .int .i64 0], .int .i64 10]) rfl (aRess_cell (aLoad_all (St.set_same _ _ _) rfl rfl rfl) (aRess_tmp aRess_nil)) ?_
    refine ⟨(m1.put 0 rfl _).sub, ?_⟩
    rw [hF, periodC_bad hA hD hb]
    rfl
  · skip
    (repeat' (first | refine AW.seq ?_ | refine AW.scope ?_ | refine AW.label ?_ | refine AW.block ?_ | refine AW.skip ?_ | refine AW.exit ?_ | refine AW.ret ?_))
    (refine AW.regionC fun Q' Kn hQ hK hK' => ?_; (repeat simp (disch := omega) only [go_sem, redN, Nat.reduceAdd, Int.reduceToNat, Int.reducePow]); (repeat' refine And.intro ?_ ?_); (try any_goals (first | (refine hK _ _ ?_; clear hK' hQ hK Q' Kn) | (intro hq9; refine ⟨hq9, ?_⟩; simp only [redB] at hq9; omega) | (intro hq9; refine ⟨hq9, fun hq8 => ?_⟩; rw [hq9, hq8]; rfl) | (simp; done) | omega | (simp only [redL]; omega) | (simp; omega) | (intros; (repeat' refine And.intro ?_ ?_) <;> (first | assumption | omega | (simp; done))))))
    refine AOp.storeAll (cs := [.int .i64 (timeF x).1.1, .bool (timeF x).1.2.1, .bool (timeF x).1.2.2, .int .i64 ((timeF y).1.1 - (timeF x).1.1)]) rfl (by simp only [go_sem] <;> rfl) (by simp [go_sem]) (m1.get 0 rfl) (by first | (simp only [go_sem]; done) | (simp [go_sem]; done) | (simp [go_sem]; omega)) (by simp [go_sem, isCell]) rfl rfl rfl ?_
    (refine AOpsC_ok hK' _ _ _ ?_; (repeat simp (disch := omega) only [go_sem, redN, Nat.reduceAdd, Int.reduceToNat, Int.reducePow]); (repeat' refine And.intro ?_ ?_); (try any_goals (first | (refine hK _ _ ?_; clear hK' hQ hK Q' Kn) | (intro hq9; refine ⟨hq9, ?_⟩; simp only [redB] at hq9; omega) | (intro hq9; refine ⟨hq9, fun hq8 => ?_⟩; rw [hq9, hq8]; rfl) | (simp; done) | omega | (simp only [redL]; omega) | (simp; omega) | (intros; (repeat' refine And.intro ?_ ?_) <;> (first | assumption | omega | (simp; done))))))
    (repeat' (first | refine AW.seq ?_ | refine AW.scope ?_ | refine AW.label ?_ | refine AW.block ?_ | refine AW.skip ?_ | refine AW.exit ?_ | refine AW.ret ?_ | (refine AW.regionC fun Q' Kn hQ hK hK' => ?_; (repeat simp (disch := omega) only [go_sem, redN, Nat.reduceAdd, Int.reduceToNat, Int.reducePow]); (repeat' refine And.intro ?_ ?_); (try any_goals (first | (refine hK _ _ ?_; clear hK' hQ hK Q' Kn) | (intro hq9; refine ⟨hq9, ?_⟩; simp only [redB] at hq9; omega) | (intro hq9; refine ⟨hq9, fun hq8 => ?_⟩; rw [hq9, hq8]; rfl) | (simp; done) | omega | (simp only [redL]; omega) | (simp; omega) | (intros; (repeat' refine And.intro ?_ ?_) <;> (first | assumption | omega | (simp; done)))))) | (refine AW.cond (by simp (disch := omega) only [go_sem, redN, Nat.reduceAdd, Int.reduceToNat, Int.reducePow]; rfl) (fun hb => ?_) (fun hb => ?_) <;> (try simp only [redB] at hb))))
    (try simp only [AThen])
    refine ABody.ofRess (vs := [.agg [.int .i64 (timeF x).1.1, .bool (timeF x).1.2.1, .bool (timeF x).1.2.2, .int .i64 ((timeF y).1.1 - (timeF x).1.1)], .int .i64 0]) rfl (aRess_cell (aLoad_all (St.set_same _ _ _) rfl rfl rfl) (aRess_tmp aRess_nil)) ?_
    refine ⟨(m1.put 0 rfl _).sub, ?_⟩
    rw [hF, periodC_good hA hD hb]
    rfl
end Go.Almanac

/- Values: a few durations are written (as the law's own examples ask). -/
namespace Go.Almanac
open Go.RowKit Go.Proofs Go.Abs

set_option linter.unusedSimpArgs false
set_option linter.unusedVariables false
set_option linter.unusedSectionVars false
set_option maxRecDepth 10000
set_option maxHeartbeats 1000000

theorem t_durNum (G : Nat → AV) (n : Int) (h0 : 0 ≤ n) (h1 : n ≤ 1000000000) (st : St) : ACalls (Ev G) 93 [.int .i64 n] st (fun e st' => st' = st ∧ e = .ret (.str (Lib.itoa n))) := by
  refine ACalls.of_body Tryz.func93 rfl ?_
  rw [Tryz.ntmps93]
  simp only [List.length_cons, List.length_nil, Nat.reduceAdd, Nat.reduceSub, List.replicate_succ, List.replicate_zero, List.cons_append, List.nil_append]
  (repeat' (first | refine AW.seq ?_ | refine AW.scope ?_ | refine AW.label ?_ | refine AW.block ?_ | refine AW.skip ?_ | refine AW.exit ?_ | refine AW.ret ?_))
  (refine AW.regionC fun Q' Kn hQ hK hK' => ?_; (repeat simp (disch := omega) only [go_sem, redN, Nat.reduceAdd, Int.reduceToNat, Int.reducePow]); (repeat' refine And.intro ?_ ?_); (try any_goals (first | (refine hK _ _ ?_; clear hK' hQ hK Q' Kn) | (intro hq9; refine ⟨hq9, ?_⟩; simp only [redB] at hq9; omega) | (intro hq9; refine ⟨hq9, fun hq8 => ?_⟩; rw [hq9, hq8]; rfl) | (simp; done) | omega | (simp only [redL]; omega) | (simp; omega) | (intros; (repeat' refine And.intro ?_ ?_) <;> (first | assumption | omega | (simp; done))))))
  (repeat' (first | refine AW.seq ?_ | refine AW.scope ?_ | refine AW.label ?_ | refine AW.block ?_ | refine AW.skip ?_ | refine AW.exit ?_ | refine AW.ret ?_))
  (refine AW.regionC fun Q' Kn hQ hK hK' => ?_; (repeat simp (disch := omega) only [go_sem, redN, Nat.reduceAdd, Int.reduceToNat, Int.reducePow]); (repeat' refine And.intro ?_ ?_); (try any_goals (first | (refine hK _ _ ?_; clear hK' hQ hK Q' Kn) | (intro hq9; refine ⟨hq9, ?_⟩; simp only [redB] at hq9; omega) | (intro hq9; refine ⟨hq9, fun hq8 => ?_⟩; rw [hq9, hq8]; rfl) | (simp; done) | omega | (simp only [redL]; omega) | (simp; omega) | (intros; (repeat' refine And.intro ?_ ?_) <;> (first | assumption | omega | (simp; done))))))
  refine AOp.call rfl (by simp only [go_sem]; rfl) (by simp [go_sem]) rfl (ACalls.mono (by simp only [go_sem]; exact b_FormatInt G n (by omega) (by omega) _) ?_)
  rintro e st' ⟨rfl, rfl⟩
  (refine AOpsC_ok hK' _ _ _ ?_; (repeat simp (disch := omega) only [go_sem, redN, Nat.reduceAdd, Int.reduceToNat, Int.reducePow]); (repeat' refine And.intro ?_ ?_); (try any_goals (first | (refine hK _ _ ?_; clear hK' hQ hK Q' Kn) | (intro hq9; refine ⟨hq9, ?_⟩; simp only [redB] at hq9; omega) | (intro hq9; refine ⟨hq9, fun hq8 => ?_⟩; rw [hq9, hq8]; rfl) | (simp; done) | omega | (simp only [redL]; omega) | (simp; omega) | (intros; (repeat' refine And.intro ?_ ?_) <;> (first | assumption | omega | (simp; done))))))
  (repeat' (first | refine AW.seq ?_ | refine AW.scope ?_ | refine AW.label ?_ | refine AW.block ?_ | refine AW.skip ?_ | refine AW.exit ?_ | refine AW.ret ?_ | (refine AW.regionC fun Q' Kn hQ hK hK' => ?_; (repeat simp (disch := omega) only [go_sem, redN, Nat.reduceAdd, Int.reduceToNat, Int.reducePow]); (repeat' refine And.intro ?_ ?_); (try any_goals (first | (refine hK _ _ ?_; clear hK' hQ hK Q' Kn) | (intro hq9; refine ⟨hq9, ?_⟩; simp only [redB] at hq9; omega) | (intro hq9; refine ⟨hq9, fun hq8 => ?_⟩; rw [hq9, hq8]; rfl) | (simp; done) | omega | (simp only [redL]; omega) | (simp; omega) | (intros; (repeat' refine And.intro ?_ ?_) <;> (first | assumption | omega | (simp; done)))))) | (refine AW.cond (by simp (disch := omega) only [go_sem, redN, Nat.reduceAdd, Int.reduceToNat, Int.reducePow]; rfl) (fun hb => ?_) (fun hb => ?_) <;> (try simp only [redB] at hb))))
  (refine ⟨_, _, rfl, by simp, ?_⟩; simp only [aTup, AA.get, List.getD_cons_zero, List.getD_cons_succ, true_and])

theorem itoa_digit {n : Int} (d : Nat) (h : n = d) (hd : d < 10) : Lib.itoa n = [UInt8.ofNat (48 + d)] := by
  subst h
  rw [Lib.itoa, if_neg (by omega), Int.toNat_natCast, Lib.decDigits_one hd]
theorem t_durDigit (G : Nat → AV) (n : Int) (d : Nat) (hn : n = d) (hd : d < 10) (st : St) : ACalls (Ev G) 93 [.int .i64 n] st (fun e st' => st' = st ∧ e = .ret (.str [UInt8.ofNat (48 + d)])) := by
  rw [← itoa_digit d hn hd]
  exact t_durNum G n (by omega) (by omega) st
theorem t_durText0 (G : Nat → AV) (st : St) : ACalls (Ev G) 40 [.int .i64 0] st (fun e st' => st' = st ∧ e = .ret (.str [80, 84, 48, 83])) := by
  refine ACalls.of_body Tryz.func40 rfl ?_
  rw [Tryz.ntmps40]
  simp only [List.length_cons, List.length_nil, Nat.reduceAdd, Nat.reduceSub, List.replicate_succ, List.replicate_zero, List.cons_append, List.nil_append]
  (repeat' (first | refine AW.seq ?_ | refine AW.scope ?_ | refine AW.label ?_ | refine AW.block ?_ | refine AW.skip ?_ | refine AW.exit ?_ | refine AW.ret ?_))
  (refine AW.regionC fun Q' Kn hQ hK hK' => ?_; (repeat simp (disch := omega) only [go_sem, redN, Nat.reduceAdd, Int.reduceToNat, Int.reducePow]); (repeat' refine And.intro ?_ ?_); (try any_goals (first | (refine hK _ _ ?_; clear hK' hQ hK Q' Kn) | (intro hq9; refine ⟨hq9, ?_⟩; simp only [redB] at hq9; omega) | (intro hq9; refine ⟨hq9, fun hq8 => ?_⟩; rw [hq9, hq8]; rfl) | (simp; done) | omega | (simp only [redL]; omega) | (simp; omega) | (intros; (repeat' refine And.intro ?_ ?_) <;> (first | assumption | omega | (simp; done))))))
  (repeat' (first | refine AW.seq ?_ | refine AW.scope ?_ | refine AW.label ?_ | refine AW.block ?_ | refine AW.skip ?_ | refine AW.exit ?_ | refine AW.ret ?_))
  (refine AW.regionC fun Q' Kn hQ hK hK' => ?_; (repeat simp (disch := omega) only [go_sem, redN, Nat.reduceAdd, Int.reduceToNat, Int.reducePow]); (repeat' refine And.intro ?_ ?_); (try any_goals (first | (refine hK _ _ ?_; clear hK' hQ hK Q' Kn) | (intro hq9; refine ⟨hq9, ?_⟩; simp only [redB] at hq9; omega) | (intro hq9; refine ⟨hq9, fun hq8 => ?_⟩; rw [hq9, hq8]; rfl) | (simp; done) | omega | (simp only [redL]; omega) | (simp; omega) | (intros; (repeat' refine And.intro ?_ ?_) <;> (first | assumption | omega | (simp; done))))))
  (repeat' (first | refine AW.seq ?_ | refine AW.scope ?_ | refine AW.label ?_ | refine AW.block ?_ | refine AW.skip ?_ | refine AW.exit ?_ | refine AW.ret ?_))
  (refine AW.cond (by simp (disch := omega) only [go_sem, redN, Nat.reduceAdd, Int.reduceToNat, Int.reducePow]; rfl) (fun hb => ?_) (fun hb => ?_) <;> (try simp only [redB] at hb))
  all_goals (first | exact absurd hb (by decide) | skip)
  (repeat' (first | refine AW.seq ?_ | refine AW.scope ?_ | refine AW.label ?_ | refine AW.block ?_ | refine AW.skip ?_ | refine AW.exit ?_ | refine AW.ret ?_))
  (refine AW.regionC fun Q' Kn hQ hK hK' => ?_; (repeat simp (disch := omega) only [go_sem, redN, Nat.reduceAdd, Int.reduceToNat, Int.reducePow]); (repeat' refine And.intro ?_ ?_); (try any_goals (first | (refine hK _ _ ?_; clear hK' hQ hK Q' Kn) | (intro hq9; refine ⟨hq9, ?_⟩; simp only [redB] at hq9; omega) | (intro hq9; refine ⟨hq9, fun hq8 => ?_⟩; rw [hq9, hq8]; rfl) | (simp; done) | omega | (simp only [redL]; omega) | (simp; omega) | (intros; (repeat' refine And.intro ?_ ?_) <;> (first | assumption | omega | (simp; done))))))
  (repeat' (first | refine AW.seq ?_ | refine AW.scope ?_ | refine AW.label ?_ | refine AW.block ?_ | refine AW.skip ?_ | refine AW.exit ?_ | refine AW.ret ?_))
  (refine AW.regionC fun Q' Kn hQ hK hK' => ?_; (repeat simp (disch := omega) only [go_sem, redN, Nat.reduceAdd, Int.reduceToNat, Int.reducePow]); (repeat' refine And.intro ?_ ?_); (try any_goals (first | (refine hK _ _ ?_; clear hK' hQ hK Q' Kn) | (intro hq9; refine ⟨hq9, ?_⟩; simp only [redB] at hq9; omega) | (intro hq9; refine ⟨hq9, fun hq8 => ?_⟩; rw [hq9, hq8]; rfl) | (simp; done) | omega | (simp only [redL]; omega) | (simp; omega) | (intros; (repeat' refine And.intro ?_ ?_) <;> (first | assumption | omega | (simp; done))))))
  (repeat' (first | refine AW.seq ?_ | refine AW.scope ?_ | refine AW.label ?_ | refine AW.block ?_ | refine AW.skip ?_ | refine AW.exit ?_ | refine AW.ret ?_))
  (refine AW.cond (by simp (disch := omega) only [go_sem, redN, Nat.reduceAdd, Int.reduceToNat, Int.reducePow]; rfl) (fun hb => ?_) (fun hb => ?_) <;> (try simp only [redB] at hb))
  all_goals (first | exact absurd hb (by decide) | skip)
  (repeat' (first | refine AW.seq ?_ | refine AW.scope ?_ | refine AW.label ?_ | refine AW.block ?_ | refine AW.skip ?_ | refine AW.exit ?_ | refine AW.ret ?_))
  (refine AW.regionC fun Q' Kn hQ hK hK' => ?_; (repeat simp (disch := omega) only [go_sem, redN, Nat.reduceAdd, Int.reduceToNat, Int.reducePow]); (repeat' refine And.intro ?_ ?_); (try any_goals (first | (refine hK _ _ ?_; clear hK' hQ hK Q' Kn) | (intro hq9; refine ⟨hq9, ?_⟩; simp only [redB] at hq9; omega) | (intro hq9; refine ⟨hq9, fun hq8 => ?_⟩; rw [hq9, hq8]; rfl) | (simp; done) | omega | (simp only [redL]; omega) | (simp; omega) | (intros; (repeat' refine And.intro ?_ ?_) <;> (first | assumption | omega | (simp; done))))))
  (repeat' (first | refine AW.seq ?_ | refine AW.scope ?_ | refine AW.label ?_ | refine AW.block ?_ | refine AW.skip ?_ | refine AW.exit ?_ | refine AW.ret ?_))
  (refine AW.cond (by simp (disch := omega) only [go_sem, redN, Nat.reduceAdd, Int.reduceToNat, Int.reducePow]; rfl) (fun hb => ?_) (fun hb => ?_) <;> (try simp only [redB] at hb))
  all_goals (first | exact absurd hb (by decide) | skip)
  (repeat' (first | refine AW.seq ?_ | refine AW.scope ?_ | refine AW.label ?_ | refine AW.block ?_ | refine AW.skip ?_ | refine AW.exit ?_ | refine AW.ret ?_))
  (refine AW.regionC fun Q' Kn hQ hK hK' => ?_; (repeat simp (disch := omega) only [go_sem, redN, Nat.reduceAdd, Int.reduceToNat, Int.reducePow]); (repeat' refine And.intro ?_ ?_); (try any_goals (first | (refine hK _ _ ?_; clear hK' hQ hK Q' Kn) | (intro hq9; refine ⟨hq9, ?_⟩; simp only [redB] at hq9; omega) | (intro hq9; refine ⟨hq9, fun hq8 => ?_⟩; rw [hq9, hq8]; rfl) | (simp; done) | omega | (simp only [redL]; omega) | (simp; omega) | (intros; (repeat' refine And.intro ?_ ?_) <;> (first | assumption | omega | (simp; done))))))
  (repeat' (first | refine AW.seq ?_ | refine AW.scope ?_ | refine AW.label ?_ | refine AW.block ?_ | refine AW.skip ?_ | refine AW.exit ?_ | refine AW.ret ?_))
  (refine AW.regionC fun Q' Kn hQ hK hK' => ?_; (repeat simp (disch := omega) only [go_sem, redN, Nat.reduceAdd, Int.reduceToNat, Int.reducePow]); (repeat' refine And.intro ?_ ?_); (try any_goals (first | (refine hK _ _ ?_; clear hK' hQ hK Q' Kn) | (intro hq9; refine ⟨hq9, ?_⟩; simp only [redB] at hq9; omega) | (intro hq9; refine ⟨hq9, fun hq8 => ?_⟩; rw [hq9, hq8]; rfl) | (simp; done) | omega | (simp only [redL]; omega) | (simp; omega) | (intros; (repeat' refine And.intro ?_ ?_) <;> (first | assumption | omega | (simp; done))))))
  (repeat' (first | refine AW.seq ?_ | refine AW.scope ?_ | refine AW.label ?_ | refine AW.block ?_ | refine AW.skip ?_ | refine AW.exit ?_ | refine AW.ret ?_))
  (refine AW.cond (by simp (disch := omega) only [go_sem, redN, Nat.reduceAdd, Int.reduceToNat, Int.reducePow]; rfl) (fun hb => ?_) (fun hb => ?_) <;> (try simp only [redB] at hb))
  all_goals (first | exact absurd hb (by decide) | skip)
  (repeat' (first | refine AW.seq ?_ | refine AW.scope ?_ | refine AW.label ?_ | refine AW.block ?_ | refine AW.skip ?_ | refine AW.exit ?_ | refine AW.ret ?_))
  (refine AW.regionC fun Q' Kn hQ hK hK' => ?_; (repeat simp (disch := omega) only [go_sem, redN, Nat.reduceAdd, Int.reduceToNat, Int.reducePow]); (repeat' refine And.intro ?_ ?_); (try any_goals (first | (refine hK _ _ ?_; clear hK' hQ hK Q' Kn) | (intro hq9; refine ⟨hq9, ?_⟩; simp only [redB] at hq9; omega) | (intro hq9; refine ⟨hq9, fun hq8 => ?_⟩; rw [hq9, hq8]; rfl) | (simp; done) | omega | (simp only [redL]; omega) | (simp; omega) | (intros; (repeat' refine And.intro ?_ ?_) <;> (first | assumption | omega | (simp; done))))))
  (repeat' (first | refine AW.seq ?_ | refine AW.scope ?_ | refine AW.label ?_ | refine AW.block ?_ | refine AW.skip ?_ | refine AW.exit ?_ | refine AW.ret ?_))
  (refine AW.cond (by simp (disch := omega) only [go_sem, redN, Nat.reduceAdd, Int.reduceToNat, Int.reducePow]; rfl) (fun hb => ?_) (fun hb => ?_) <;> (try simp only [redB] at hb))
  all_goals (first | exact absurd hb (by decide) | skip)
  (repeat' (first | refine AW.seq ?_ | refine AW.scope ?_ | refine AW.label ?_ | refine AW.block ?_ | refine AW.skip ?_ | refine AW.exit ?_ | refine AW.ret ?_))
  (refine AW.regionC fun Q' Kn hQ hK hK' => ?_; (repeat simp (disch := omega) only [go_sem, redN, Nat.reduceAdd, Int.reduceToNat, Int.reducePow]); (repeat' refine And.intro ?_ ?_); (try any_goals (first | (refine hK _ _ ?_; clear hK' hQ hK Q' Kn) | (intro hq9; refine ⟨hq9, ?_⟩; simp only [redB] at hq9; omega) | (intro hq9; refine ⟨hq9, fun hq8 => ?_⟩; rw [hq9, hq8]; rfl) | (simp; done) | omega | (simp only [redL]; omega) | (simp; omega) | (intros; (repeat' refine And.intro ?_ ?_) <;> (first | assumption | omega | (simp; done))))))
  (repeat' (first | refine AW.seq ?_ | refine AW.scope ?_ | refine AW.label ?_ | refine AW.block ?_ | refine AW.skip ?_ | refine AW.exit ?_ | refine AW.ret ?_))
  (refine AW.regionC fun Q' Kn hQ hK hK' => ?_; (repeat simp (disch := omega) only [go_sem, redN, Nat.reduceAdd, Int.reduceToNat, Int.reducePow]); (repeat' refine And.intro ?_ ?_); (try any_goals (first | (refine hK _ _ ?_; clear hK' hQ hK Q' Kn) | (intro hq9; refine ⟨hq9, ?_⟩; simp only [redB] at hq9; omega) | (intro hq9; refine ⟨hq9, fun hq8 => ?_⟩; rw [hq9, hq8]; rfl) | (simp; done) | omega | (simp only [redL]; omega) | (simp; omega) | (intros; (repeat' refine And.intro ?_ ?_) <;> (first | assumption | omega | (simp; done))))))
  (repeat' (first | refine AW.seq ?_ | refine AW.scope ?_ | refine AW.label ?_ | refine AW.block ?_ | refine AW.skip ?_ | refine AW.exit ?_ | refine AW.ret ?_))
  (refine AW.cond (by simp (disch := omega) only [go_sem, redN, Nat.reduceAdd, Int.reduceToNat, Int.reducePow]; rfl) (fun hb => ?_) (fun hb => ?_) <;> (try simp only [redB] at hb))
  all_goals (first | exact absurd hb (by decide) | skip)
  (repeat' (first | refine AW.seq ?_ | refine AW.scope ?_ | refine AW.label ?_ | refine AW.block ?_ | refine AW.skip ?_ | refine AW.exit ?_ | refine AW.ret ?_))
  (refine AW.regionC fun Q' Kn hQ hK hK' => ?_; (repeat simp (disch := omega) only [go_sem, redN, Nat.reduceAdd, Int.reduceToNat, Int.reducePow]); (repeat' refine And.intro ?_ ?_); (try any_goals (first | (refine hK _ _ ?_; clear hK' hQ hK Q' Kn) | (intro hq9; refine ⟨hq9, ?_⟩; simp only [redB] at hq9; omega) | (intro hq9; refine ⟨hq9, fun hq8 => ?_⟩; rw [hq9, hq8]; rfl) | (simp; done) | omega | (simp only [redL]; omega) | (simp; omega) | (intros; (repeat' refine And.intro ?_ ?_) <;> (first | assumption | omega | (simp; done))))))
  (repeat' (first | refine AW.seq ?_ | refine AW.scope ?_ | refine AW.label ?_ | refine AW.block ?_ | refine AW.skip ?_ | refine AW.exit ?_ | refine AW.ret ?_))
  (refine AW.cond (by simp (disch := omega) only [go_sem, redN, Nat.reduceAdd, Int.reduceToNat, Int.reducePow]; rfl) (fun hb => ?_) (fun hb => ?_) <;> (try simp only [redB] at hb))
  all_goals (first | exact absurd hb (by decide) | skip)
  (repeat' (first | refine AW.seq ?_ | refine AW.scope ?_ | refine AW.label ?_ | refine AW.block ?_ | refine AW.skip ?_ | refine AW.exit ?_ | refine AW.ret ?_))
  (refine AW.regionC fun Q' Kn hQ hK hK' => ?_; (repeat simp (disch := omega) only [go_sem, redN, Nat.reduceAdd, Int.reduceToNat, Int.reducePow]); (repeat' refine And.intro ?_ ?_); (try any_goals (first | (refine hK _ _ ?_; clear hK' hQ hK Q' Kn) | (intro hq9; refine ⟨hq9, ?_⟩; simp only [redB] at hq9; omega) | (intro hq9; refine ⟨hq9, fun hq8 => ?_⟩; rw [hq9, hq8]; rfl) | (simp; done) | omega | (simp only [redL]; omega) | (simp; omega) | (intros; (repeat' refine And.intro ?_ ?_) <;> (first | assumption | omega | (simp; done))))))
  (repeat' (first | refine AW.seq ?_ | refine AW.scope ?_ | refine AW.label ?_ | refine AW.block ?_ | refine AW.skip ?_ | refine AW.exit ?_ | refine AW.ret ?_))
  (refine AW.cond (by simp (disch := omega) only [go_sem, redN, Nat.reduceAdd, Int.reduceToNat, Int.reducePow]; rfl) (fun hb => ?_) (fun hb => ?_) <;> (try simp only [redB] at hb))
  all_goals (first | exact absurd hb (by decide) | skip)
  (repeat' (first | refine AW.seq ?_ | refine AW.scope ?_ | refine AW.label ?_ | refine AW.block ?_ | refine AW.skip ?_ | refine AW.exit ?_ | refine AW.ret ?_))
  (refine AW.regionC fun Q' Kn hQ hK hK' => ?_; (repeat simp (disch := omega) only [go_sem, redN, Nat.reduceAdd, Int.reduceToNat, Int.reducePow]); (repeat' refine And.intro ?_ ?_); (try any_goals (first | (refine hK _ _ ?_; clear hK' hQ hK Q' Kn) | (intro hq9; refine ⟨hq9, ?_⟩; simp only [redB] at hq9; omega) | (intro hq9; refine ⟨hq9, fun hq8 => ?_⟩; rw [hq9, hq8]; rfl) | (simp; done) | omega | (simp only [redL]; omega) | (simp; omega) | (intros; (repeat' refine And.intro ?_ ?_) <;> (first | assumption | omega | (simp; done))))))
  refine AOp.call rfl (by simp only [go_sem]; rfl) (by simp [go_sem]) rfl (ACalls.mono (by simp only [go_sem]; exact t_durDigit G _ 0 (by decide) (by decide) _) ?_)
  rintro e st' ⟨rfl, rfl⟩
  (refine AOpsC_ok hK' _ _ _ ?_; (repeat simp (disch := omega) only [go_sem, redN, Nat.reduceAdd, Int.reduceToNat, Int.reducePow]); (repeat' refine And.intro ?_ ?_); (try any_goals (first | (refine hK _ _ ?_; clear hK' hQ hK Q' Kn) | (intro hq9; refine ⟨hq9, ?_⟩; simp only [redB] at hq9; omega) | (intro hq9; refine ⟨hq9, fun hq8 => ?_⟩; rw [hq9, hq8]; rfl) | (simp; done) | omega | (simp only [redL]; omega) | (simp; omega) | (intros; (repeat' refine And.intro ?_ ?_) <;> (first | assumption | omega | (simp; done))))))
  (repeat' (first | refine AW.seq ?_ | refine AW.scope ?_ | refine AW.label ?_ | refine AW.block ?_ | refine AW.skip ?_ | refine AW.exit ?_ | refine AW.ret ?_))
  (refine AW.regionC fun Q' Kn hQ hK hK' => ?_; (repeat simp (disch := omega) only [go_sem, redN, Nat.reduceAdd, Int.reduceToNat, Int.reducePow]); (repeat' refine And.intro ?_ ?_); (try any_goals (first | (refine hK _ _ ?_; clear hK' hQ hK Q' Kn) | (intro hq9; refine ⟨hq9, ?_⟩; simp only [redB] at hq9; omega) | (intro hq9; refine ⟨hq9, fun hq8 => ?_⟩; rw [hq9, hq8]; rfl) | (simp; done) | omega | (simp only [redL]; omega) | (simp; omega) | (intros; (repeat' refine And.intro ?_ ?_) <;> (first | assumption | omega | (simp; done))))))
  (repeat' (first | refine AW.seq ?_ | refine AW.scope ?_ | refine AW.label ?_ | refine AW.block ?_ | refine AW.skip ?_ | refine AW.exit ?_ | refine AW.ret ?_))
  (refine ⟨_, _, rfl, by simp, ?_⟩; simp only [aTup, AA.get, List.getD_cons_zero, List.getD_cons_succ, true_and])
  rfl

theorem t_durText7 (G : Nat → AV) (st : St) : ACalls (Ev G) 40 [.int .i64 604800] st (fun e st' => st' = st ∧ e = .ret (.str [80, 49, 87])) := by
  refine ACalls.of_body Tryz.func40 rfl ?_
  rw [Tryz.ntmps40]
  simp only [List.length_cons, List.length_nil, Nat.reduceAdd, Nat.reduceSub, List.replicate_succ, List.replicate_zero, List.cons_append, List.nil_append]
  (repeat' (first | refine AW.seq ?_ | refine AW.scope ?_ | refine AW.label ?_ | refine AW.block ?_ | refine AW.skip ?_ | refine AW.exit ?_ | refine AW.ret ?_))
  (refine AW.regionC fun Q' Kn hQ hK hK' => ?_; (repeat simp (disch := omega) only [go_sem, redN, Nat.reduceAdd, Int.reduceToNat, Int.reducePow]); (repeat' refine And.intro ?_ ?_); (try any_goals (first | (refine hK _ _ ?_; clear hK' hQ hK Q' Kn) | (intro hq9; refine ⟨hq9, ?_⟩; simp only [redB] at hq9; omega) | (intro hq9; refine ⟨hq9, fun hq8 => ?_⟩; rw [hq9, hq8]; rfl) | (simp; done) | omega | (simp only [redL]; omega) | (simp; omega) | (intros; (repeat' refine And.intro ?_ ?_) <;> (first | assumption | omega | (simp; done))))))
  (repeat' (first | refine AW.seq ?_ | refine AW.scope ?_ | refine AW.label ?_ | refine AW.block ?_ | refine AW.skip ?_ | refine AW.exit ?_ | refine AW.ret ?_))
  (refine AW.regionC fun Q' Kn hQ hK hK' => ?_; (repeat simp (disch := omega) only [go_sem, redN, Nat.reduceAdd, Int.reduceToNat, Int.reducePow]); (repeat' refine And.intro ?_ ?_); (try any_goals (first | (refine hK _ _ ?_; clear hK' hQ hK Q' Kn) | (intro hq9; refine ⟨hq9, ?_⟩; simp only [redB] at hq9; omega) | (intro hq9; refine ⟨hq9, fun hq8 => ?_⟩; rw [hq9, hq8]; rfl) | (simp; done) | omega | (simp only [redL]; omega) | (simp; omega) | (intros; (repeat' refine And.intro ?_ ?_) <;> (first | assumption | omega | (simp; done))))))
  (repeat' (first | refine AW.seq ?_ | refine AW.scope ?_ | refine AW.label ?_ | refine AW.block ?_ | refine AW.skip ?_ | refine AW.exit ?_ | refine AW.ret ?_))
  (refine AW.cond (by simp (disch := omega) only [go_sem, redN, Nat.reduceAdd, Int.reduceToNat, Int.reducePow]; rfl) (fun hb => ?_) (fun hb => ?_) <;> (try simp only [redB] at hb))
  all_goals (first | exact absurd hb (by decide) | skip)
  (repeat' (first | refine AW.seq ?_ | refine AW.scope ?_ | refine AW.label ?_ | refine AW.block ?_ | refine AW.skip ?_ | refine AW.exit ?_ | refine AW.ret ?_))
  (refine AW.regionC fun Q' Kn hQ hK hK' => ?_; (repeat simp (disch := omega) only [go_sem, redN, Nat.reduceAdd, Int.reduceToNat, Int.reducePow]); (repeat' refine And.intro ?_ ?_); (try any_goals (first | (refine hK _ _ ?_; clear hK' hQ hK Q' Kn) | (intro hq9; refine ⟨hq9, ?_⟩; simp only [redB] at hq9; omega) | (intro hq9; refine ⟨hq9, fun hq8 => ?_⟩; rw [hq9, hq8]; rfl) | (simp; done) | omega | (simp only [redL]; omega) | (simp; omega) | (intros; (repeat' refine And.intro ?_ ?_) <;> (first | assumption | omega | (simp; done))))))
  (repeat' (first | refine AW.seq ?_ | refine AW.scope ?_ | refine AW.label ?_ | refine AW.block ?_ | refine AW.skip ?_ | refine AW.exit ?_ | refine AW.ret ?_))
  (refine AW.regionC fun Q' Kn hQ hK hK' => ?_; (repeat simp (disch := omega) only [go_sem, redN, Nat.reduceAdd, Int.reduceToNat, Int.reducePow]); (repeat' refine And.intro ?_ ?_); (try any_goals (first | (refine hK _ _ ?_; clear hK' hQ hK Q' Kn) | (intro hq9; refine ⟨hq9, ?_⟩; simp only [redB] at hq9; omega) | (intro hq9; refine ⟨hq9, fun hq8 => ?_⟩; rw [hq9, hq8]; rfl) | (simp; done) | omega | (simp only [redL]; omega) | (simp; omega) | (intros; (repeat' refine And.intro ?_ ?_) <;> (first | assumption | omega | (simp; done))))))
  (repeat' (first | refine AW.seq ?_ | refine AW.scope ?_ | refine AW.label ?_ | refine AW.block ?_ | refine AW.skip ?_ | refine AW.exit ?_ | refine AW.ret ?_))
  (refine AW.cond (by simp (disch := omega) only [go_sem, redN, Nat.reduceAdd, Int.reduceToNat, Int.reducePow]; rfl) (fun hb => ?_) (fun hb => ?_) <;> (try simp only [redB] at hb))
  all_goals (first | exact absurd hb (by decide) | skip)
  (repeat' (first | refine AW.seq ?_ | refine AW.scope ?_ | refine AW.label ?_ | refine AW.block ?_ | refine AW.skip ?_ | refine AW.exit ?_ | refine AW.ret ?_))
  (refine AW.regionC fun Q' Kn hQ hK hK' => ?_; (repeat simp (disch := omega) only [go_sem, redN, Nat.reduceAdd, Int.reduceToNat, Int.reducePow]); (repeat' refine And.intro ?_ ?_); (try any_goals (first | (refine hK _ _ ?_; clear hK' hQ hK Q' Kn) | (intro hq9; refine ⟨hq9, ?_⟩; simp only [redB] at hq9; omega) | (intro hq9; refine ⟨hq9, fun hq8 => ?_⟩; rw [hq9, hq8]; rfl) | (simp; done) | omega | (simp only [redL]; omega) | (simp; omega) | (intros; (repeat' refine And.intro ?_ ?_) <;> (first | assumption | omega | (simp; done))))))
  (repeat' (first | refine AW.seq ?_ | refine AW.scope ?_ | refine AW.label ?_ | refine AW.block ?_ | refine AW.skip ?_ | refine AW.exit ?_ | refine AW.ret ?_))
  (refine AW.cond (by simp (disch := omega) only [go_sem, redN, Nat.reduceAdd, Int.reduceToNat, Int.reducePow]; rfl) (fun hb => ?_) (fun hb => ?_) <;> (try simp only [redB] at hb))
  all_goals (first | exact absurd hb (by decide) | skip)
  (repeat' (first | refine AW.seq ?_ | refine AW.scope ?_ | refine AW.label ?_ | refine AW.block ?_ | refine AW.skip ?_ | refine AW.exit ?_ | refine AW.ret ?_))
  (refine AW.regionC fun Q' Kn hQ hK hK' => ?_; (repeat simp (disch := omega) only [go_sem, redN, Nat.reduceAdd, Int.reduceToNat, Int.reducePow]); (repeat' refine And.intro ?_ ?_); (try any_goals (first | (refine hK _ _ ?_; clear hK' hQ hK Q' Kn) | (intro hq9; refine ⟨hq9, ?_⟩; simp only [redB] at hq9; omega) | (intro hq9; refine ⟨hq9, fun hq8 => ?_⟩; rw [hq9, hq8]; rfl) | (simp; done) | omega | (simp only [redL]; omega) | (simp; omega) | (intros; (repeat' refine And.intro ?_ ?_) <;> (first | assumption | omega | (simp; done))))))
  refine AOp.call rfl (by simp only [go_sem]; rfl) (by simp [go_sem]) rfl (ACalls.mono (by simp only [go_sem]; exact t_durDigit G _ 1 (by decide) (by decide) _) ?_)
  rintro e st' ⟨rfl, rfl⟩
  (refine AOpsC_ok hK' _ _ _ ?_; (repeat simp (disch := omega) only [go_sem, redN, Nat.reduceAdd, Int.reduceToNat, Int.reducePow]); (repeat' refine And.intro ?_ ?_); (try any_goals (first | (refine hK _ _ ?_; clear hK' hQ hK Q' Kn) | (intro hq9; refine ⟨hq9, ?_⟩; simp only [redB] at hq9; omega) | (intro hq9; refine ⟨hq9, fun hq8 => ?_⟩; rw [hq9, hq8]; rfl) | (simp; done) | omega | (simp only [redL]; omega) | (simp; omega) | (intros; (repeat' refine And.intro ?_ ?_) <;> (first | assumption | omega | (simp; done))))))
  (repeat' (first | refine AW.seq ?_ | refine AW.scope ?_ | refine AW.label ?_ | refine AW.block ?_ | refine AW.skip ?_ | refine AW.exit ?_ | refine AW.ret ?_))
  (refine ⟨_, _, rfl, by simp, ?_⟩; simp only [aTup, AA.get, List.getD_cons_zero, List.getD_cons_succ, true_and])
  rfl

theorem t_durText3 (G : Nat → AV) (st : St) : ACalls (Ev G) 40 [.int .i64 3605] st (fun e st' => st' = st ∧ e = .ret (.str [80, 84, 49, 72, 48, 77, 53, 83])) := by
  refine ACalls.of_body Tryz.func40 rfl ?_
  rw [Tryz.ntmps40]
  simp only [List.length_cons, List.length_nil, Nat.reduceAdd, Nat.reduceSub, List.replicate_succ, List.replicate_zero, List.cons_append, List.nil_append]
  (repeat' (first | refine AW.seq ?_ | refine AW.scope ?_ | refine AW.label ?_ | refine AW.block ?_ | refine AW.skip ?_ | refine AW.exit ?_ | refine AW.ret ?_))
  (refine AW.regionC fun Q' Kn hQ hK hK' => ?_; (repeat simp (disch := omega) only [go_sem, redN, Nat.reduceAdd, Int.reduceToNat, Int.reducePow]); (repeat' refine And.intro ?_ ?_); (try any_goals (first | (refine hK _ _ ?_; clear hK' hQ hK Q' Kn) | (intro hq9; refine ⟨hq9, ?_⟩; simp only [redB] at hq9; omega) | (intro hq9; refine ⟨hq9, fun hq8 => ?_⟩; rw [hq9, hq8]; rfl) | (simp; done) | omega | (simp only [redL]; omega) | (simp; omega) | (intros; (repeat' refine And.intro ?_ ?_) <;> (first | assumption | omega | (simp; done))))))
  (repeat' (first | refine AW.seq ?_ | refine AW.scope ?_ | refine AW.label ?_ | refine AW.block ?_ | refine AW.skip ?_ | refine AW.exit ?_ | refine AW.ret ?_))
  (refine AW.regionC fun Q' Kn hQ hK hK' => ?_; (repeat simp (disch := omega) only [go_sem, redN, Nat.reduceAdd, Int.reduceToNat, Int.reducePow]); (repeat' refine And.intro ?_ ?_); (try any_goals (first | (refine hK _ _ ?_; clear hK' hQ hK Q' Kn) | (intro hq9; refine ⟨hq9, ?_⟩; simp only [redB] at hq9; omega) | (intro hq9; refine ⟨hq9, fun hq8 => ?_⟩; rw [hq9, hq8]; rfl) | (simp; done) | omega | (simp only [redL]; omega) | (simp; omega) | (intros; (repeat' refine And.intro ?_ ?_) <;> (first | assumption | omega | (simp; done))))))
  (repeat' (first | refine AW.seq ?_ | refine AW.scope ?_ | refine AW.label ?_ | refine AW.block ?_ | refine AW.skip ?_ | refine AW.exit ?_ | refine AW.ret ?_))
  (refine AW.cond (by simp (disch := omega) only [go_sem, redN, Nat.reduceAdd, Int.reduceToNat, Int.reducePow]; rfl) (fun hb => ?_) (fun hb => ?_) <;> (try simp only [redB] at hb))
  all_goals (first | exact absurd hb (by decide) | skip)
  (repeat' (first | refine AW.seq ?_ | refine AW.scope ?_ | refine AW.label ?_ | refine AW.block ?_ | refine AW.skip ?_ | refine AW.exit ?_ | refine AW.ret ?_))
  (refine AW.regionC fun Q' Kn hQ hK hK' => ?_; (repeat simp (disch := omega) only [go_sem, redN, Nat.reduceAdd, Int.reduceToNat, Int.reducePow]); (repeat' refine And.intro ?_ ?_); (try any_goals (first | (refine hK _ _ ?_; clear hK' hQ hK Q' Kn) | (intro hq9; refine ⟨hq9, ?_⟩; simp only [redB] at hq9; omega) | (intro hq9; refine ⟨hq9, fun hq8 => ?_⟩; rw [hq9, hq8]; rfl) | (simp; done) | omega | (simp only [redL]; omega) | (simp; omega) | (intros; (repeat' refine And.intro ?_ ?_) <;> (first | assumption | omega | (simp; done))))))
  (repeat' (first | refine AW.seq ?_ | refine AW.scope ?_ | refine AW.label ?_ | refine AW.block ?_ | refine AW.skip ?_ | refine AW.exit ?_ | refine AW.ret ?_))
  (refine AW.regionC fun Q' Kn hQ hK hK' => ?_; (repeat simp (disch := omega) only [go_sem, redN, Nat.reduceAdd, Int.reduceToNat, Int.reducePow]); (repeat' refine And.intro ?_ ?_); (try any_goals (first | (refine hK _ _ ?_; clear hK' hQ hK Q' Kn) | (intro hq9; refine ⟨hq9, ?_⟩; simp only [redB] at hq9; omega) | (intro hq9; refine ⟨hq9, fun hq8 => ?_⟩; rw [hq9, hq8]; rfl) | (simp; done) | omega | (simp only [redL]; omega) | (simp; omega) | (intros; (repeat' refine And.intro ?_ ?_) <;> (first | assumption | omega | (simp; done))))))
  (repeat' (first | refine AW.seq ?_ | refine AW.scope ?_ | refine AW.label ?_ | refine AW.block ?_ | refine AW.skip ?_ | refine AW.exit ?_ | refine AW.ret ?_))
  (refine AW.cond (by simp (disch := omega) only [go_sem, redN, Nat.reduceAdd, Int.reduceToNat, Int.reducePow]; rfl) (fun hb => ?_) (fun hb => ?_) <;> (try simp only [redB] at hb))
  all_goals (first | exact absurd hb (by decide) | skip)
  (repeat' (first | refine AW.seq ?_ | refine AW.scope ?_ | refine AW.label ?_ | refine AW.block ?_ | refine AW.skip ?_ | refine AW.exit ?_ | refine AW.ret ?_))
  (refine AW.regionC fun Q' Kn hQ hK hK' => ?_; (repeat simp (disch := omega) only [go_sem, redN, Nat.reduceAdd, Int.reduceToNat, Int.reducePow]); (repeat' refine And.intro ?_ ?_); (try any_goals (first | (refine hK _ _ ?_; clear hK' hQ hK Q' Kn) | (intro hq9; refine ⟨hq9, ?_⟩; simp only [redB] at hq9; omega) | (intro hq9; refine ⟨hq9, fun hq8 => ?_⟩; rw [hq9, hq8]; rfl) | (simp; done) | omega | (simp only [redL]; omega) | (simp; omega) | (intros; (repeat' refine And.intro ?_ ?_) <;> (first | assumption | omega | (simp; done))))))
  (repeat' (first | refine AW.seq ?_ | refine AW.scope ?_ | refine AW.label ?_ | refine AW.block ?_ | refine AW.skip ?_ | refine AW.exit ?_ | refine AW.ret ?_))
  (refine AW.cond (by simp (disch := omega) only [go_sem, redN, Nat.reduceAdd, Int.reduceToNat, Int.reducePow]; rfl) (fun hb => ?_) (fun hb => ?_) <;> (try simp only [redB] at hb))
  all_goals (first | exact absurd hb (by decide) | skip)
  (repeat' (first | refine AW.seq ?_ | refine AW.scope ?_ | refine AW.label ?_ | refine AW.block ?_ | refine AW.skip ?_ | refine AW.exit ?_ | refine AW.ret ?_))
  (refine AW.regionC fun Q' Kn hQ hK hK' => ?_; (repeat simp (disch := omega) only [go_sem, redN, Nat.reduceAdd, Int.reduceToNat, Int.reducePow]); (repeat' refine And.intro ?_ ?_); (try any_goals (first | (refine hK _ _ ?_; clear hK' hQ hK Q' Kn) | (intro hq9; refine ⟨hq9, ?_⟩; simp only [redB] at hq9; omega) | (intro hq9; refine ⟨hq9, fun hq8 => ?_⟩; rw [hq9, hq8]; rfl) | (simp; done) | omega | (simp only [redL]; omega) | (simp; omega) | (intros; (repeat' refine And.intro ?_ ?_) <;> (first | assumption | omega | (simp; done))))))
  (repeat' (first | refine AW.seq ?_ | refine AW.scope ?_ | refine AW.label ?_ | refine AW.block ?_ | refine AW.skip ?_ | refine AW.exit ?_ | refine AW.ret ?_))
  (refine AW.regionC fun Q' Kn hQ hK hK' => ?_; (repeat simp (disch := omega) only [go_sem, redN, Nat.reduceAdd, Int.reduceToNat, Int.reducePow]); (repeat' refine And.intro ?_ ?_); (try any_goals (first | (refine hK _ _ ?_; clear hK' hQ hK Q' Kn) | (intro hq9; refine ⟨hq9, ?_⟩; simp only [redB] at hq9; omega) | (intro hq9; refine ⟨hq9, fun hq8 => ?_⟩; rw [hq9, hq8]; rfl) | (simp; done) | omega | (simp only [redL]; omega) | (simp; omega) | (intros; (repeat' refine And.intro ?_ ?_) <;> (first | assumption | omega | (simp; done))))))
  (repeat' (first | refine AW.seq ?_ | refine AW.scope ?_ | refine AW.label ?_ | refine AW.block ?_ | refine AW.skip ?_ | refine AW.exit ?_ | refine AW.ret ?_))
  (refine AW.cond (by simp (disch := omega) only [go_sem, redN, Nat.reduceAdd, Int.reduceToNat, Int.reducePow]; rfl) (fun hb => ?_) (fun hb => ?_) <;> (try simp only [redB] at hb))
  all_goals (first | exact absurd hb (by decide) | skip)
  (repeat' (first | refine AW.seq ?_ | refine AW.scope ?_ | refine AW.label ?_ | refine AW.block ?_ | refine AW.skip ?_ | refine AW.exit ?_ | refine AW.ret ?_))
  (refine AW.regionC fun Q' Kn hQ hK hK' => ?_; (repeat simp (disch := omega) only [go_sem, redN, Nat.reduceAdd, Int.reduceToNat, Int.reducePow]); (repeat' refine And.intro ?_ ?_); (try any_goals (first | (refine hK _ _ ?_; clear hK' hQ hK Q' Kn) | (intro hq9; refine ⟨hq9, ?_⟩; simp only [redB] at hq9; omega) | (intro hq9; refine ⟨hq9, fun hq8 => ?_⟩; rw [hq9, hq8]; rfl) | (simp; done) | omega | (simp only [redL]; omega) | (simp; omega) | (intros; (repeat' refine And.intro ?_ ?_) <;> (first | assumption | omega | (simp; done))))))
  (repeat' (first | refine AW.seq ?_ | refine AW.scope ?_ | refine AW.label ?_ | refine AW.block ?_ | refine AW.skip ?_ | refine AW.exit ?_ | refine AW.ret ?_))
  (refine AW.cond (by simp (disch := omega) only [go_sem, redN, Nat.reduceAdd, Int.reduceToNat, Int.reducePow]; rfl) (fun hb => ?_) (fun hb => ?_) <;> (try simp only [redB] at hb))
  all_goals (first | exact absurd hb (by decide) | skip)
  (repeat' (first | refine AW.seq ?_ | refine AW.scope ?_ | refine AW.label ?_ | refine AW.block ?_ | refine AW.skip ?_ | refine AW.exit ?_ | refine AW.ret ?_))
  (refine AW.regionC fun Q' Kn hQ hK hK' => ?_; (repeat simp (disch := omega) only [go_sem, redN, Nat.reduceAdd, Int.reduceToNat, Int.reducePow]); (repeat' refine And.intro ?_ ?_); (try any_goals (first | (refine hK _ _ ?_; clear hK' hQ hK Q' Kn) | (intro hq9; refine ⟨hq9, ?_⟩; simp only [redB] at hq9; omega) | (intro hq9; refine ⟨hq9, fun hq8 => ?_⟩; rw [hq9, hq8]; rfl) | (simp; done) | omega | (simp only [redL]; omega) | (simp; omega) | (intros; (repeat' refine And.intro ?_ ?_) <;> (first | assumption | omega | (simp; done))))))
  (repeat' (first | refine AW.seq ?_ | refine AW.scope ?_ | refine AW.label ?_ | refine AW.block ?_ | refine AW.skip ?_ | refine AW.exit ?_ | refine AW.ret ?_))
  (refine AW.regionC fun Q' Kn hQ hK hK' => ?_; (repeat simp (disch := omega) only [go_sem, redN, Nat.reduceAdd, Int.reduceToNat, Int.reducePow]); (repeat' refine And.intro ?_ ?_); (try any_goals (first | (refine hK _ _ ?_; clear hK' hQ hK Q' Kn) | (intro hq9; refine ⟨hq9, ?_⟩; simp only [redB] at hq9; omega) | (intro hq9; refine ⟨hq9, fun hq8 => ?_⟩; rw [hq9, hq8]; rfl) | (simp; done) | omega | (simp only [redL]; omega) | (simp; omega) | (intros; (repeat' refine And.intro ?_ ?_) <;> (first | assumption | omega | (simp; done))))))
  (repeat' (first | refine AW.seq ?_ | refine AW.scope ?_ | refine AW.label ?_ | refine AW.block ?_ | refine AW.skip ?_ | refine AW.exit ?_ | refine AW.ret ?_))
  (refine AW.cond (by simp (disch := omega) only [go_sem, redN, Nat.reduceAdd, Int.reduceToNat, Int.reducePow]; rfl) (fun hb => ?_) (fun hb => ?_) <;> (try simp only [redB] at hb))
  all_goals (first | exact absurd hb (by decide) | skip)
  (repeat' (first | refine AW.seq ?_ | refine AW.scope ?_ | refine AW.label ?_ | refine AW.block ?_ | refine AW.skip ?_ | refine AW.exit ?_ | refine AW.ret ?_))
  (refine AW.regionC fun Q' Kn hQ hK hK' => ?_; (repeat simp (disch := omega) only [go_sem, redN, Nat.reduceAdd, Int.reduceToNat, Int.reducePow]); (repeat' refine And.intro ?_ ?_); (try any_goals (first | (refine hK _ _ ?_; clear hK' hQ hK Q' Kn) | (intro hq9; refine ⟨hq9, ?_⟩; simp only [redB] at hq9; omega) | (intro hq9; refine ⟨hq9, fun hq8 => ?_⟩; rw [hq9, hq8]; rfl) | (simp; done) | omega | (simp only [redL]; omega) | (simp; omega) | (intros; (repeat' refine And.intro ?_ ?_) <;> (first | assumption | omega | (simp; done))))))
  refine AOp.call rfl (by simp only [go_sem]; rfl) (by simp [go_sem]) rfl (ACalls.mono (by simp only [go_sem]; exact t_durDigit G _ 1 (by decide) (by decide) _) ?_)
  rintro e st' ⟨rfl, rfl⟩
  (refine AOpsC_ok hK' _ _ _ ?_; (repeat simp (disch := omega) only [go_sem, redN, Nat.reduceAdd, Int.reduceToNat, Int.reducePow]); (repeat' refine And.intro ?_ ?_); (try any_goals (first | (refine hK _ _ ?_; clear hK' hQ hK Q' Kn) | (intro hq9; refine ⟨hq9, ?_⟩; simp only [redB] at hq9; omega) | (intro hq9; refine ⟨hq9, fun hq8 => ?_⟩; rw [hq9, hq8]; rfl) | (simp; done) | omega | (simp only [redL]; omega) | (simp; omega) | (intros; (repeat' refine And.intro ?_ ?_) <;> (first | assumption | omega | (simp; done))))))
  (repeat' (first | refine AW.seq ?_ | refine AW.scope ?_ | refine AW.label ?_ | refine AW.block ?_ | refine AW.skip ?_ | refine AW.exit ?_ | refine AW.ret ?_))
  (refine AW.regionC fun Q' Kn hQ hK hK' => ?_; (repeat simp (disch := omega) only [go_sem, redN, Nat.reduceAdd, Int.reduceToNat, Int.reducePow]); (repeat' refine And.intro ?_ ?_); (try any_goals (first | (refine hK _ _ ?_; clear hK' hQ hK Q' Kn) | (intro hq9; refine ⟨hq9, ?_⟩; simp only [redB] at hq9; omega) | (intro hq9; refine ⟨hq9, fun hq8 => ?_⟩; rw [hq9, hq8]; rfl) | (simp; done) | omega | (simp only [redL]; omega) | (simp; omega) | (intros; (repeat' refine And.intro ?_ ?_) <;> (first | assumption | omega | (simp; done))))))
  (repeat' (first | refine AW.seq ?_ | refine AW.scope ?_ | refine AW.label ?_ | refine AW.block ?_ | refine AW.skip ?_ | refine AW.exit ?_ | refine AW.ret ?_))
  (refine AW.cond (by simp (disch := omega) only [go_sem, redN, Nat.reduceAdd, Int.reduceToNat, Int.reducePow]; rfl) (fun hb => ?_) (fun hb => ?_) <;> (try simp only [redB] at hb))
  all_goals (first | exact absurd hb (by decide) | skip)
  (repeat' (first | refine AW.seq ?_ | refine AW.scope ?_ | refine AW.label ?_ | refine AW.block ?_ | refine AW.skip ?_ | refine AW.exit ?_ | refine AW.ret ?_))
  (refine AW.regionC fun Q' Kn hQ hK hK' => ?_; (repeat simp (disch := omega) only [go_sem, redN, Nat.reduceAdd, Int.reduceToNat, Int.reducePow]); (repeat' refine And.intro ?_ ?_); (try any_goals (first | (refine hK _ _ ?_; clear hK' hQ hK Q' Kn) | (intro hq9; refine ⟨hq9, ?_⟩; simp only [redB] at hq9; omega) | (intro hq9; refine ⟨hq9, fun hq8 => ?_⟩; rw [hq9, hq8]; rfl) | (simp; done) | omega | (simp only [redL]; omega) | (simp; omega) | (intros; (repeat' refine And.intro ?_ ?_) <;> (first | assumption | omega | (simp; done))))))
  refine AOp.call rfl (by simp only [go_sem]; rfl) (by simp [go_sem]) rfl (ACalls.mono (by simp only [go_sem]; exact t_durDigit G _ 0 (by decide) (by decide) _) ?_)
  rintro e st' ⟨rfl, rfl⟩
  (refine AOpsC_ok hK' _ _ _ ?_; (repeat simp (disch := omega) only [go_sem, redN, Nat.reduceAdd, Int.reduceToNat, Int.reducePow]); (repeat' refine And.intro ?_ ?_); (try any_goals (first | (refine hK _ _ ?_; clear hK' hQ hK Q' Kn) | (intro hq9; refine ⟨hq9, ?_⟩; simp only [redB] at hq9; omega) | (intro hq9; refine ⟨hq9, fun hq8 => ?_⟩; rw [hq9, hq8]; rfl) | (simp; done) | omega | (simp only [redL]; omega) | (simp; omega) | (intros; (repeat' refine And.intro ?_ ?_) <;> (first | assumption | omega | (simp; done))))))
  (repeat' (first | refine AW.seq ?_ | refine AW.scope ?_ | refine AW.label ?_ | refine AW.block ?_ | refine AW.skip ?_ | refine AW.exit ?_ | refine AW.ret ?_))
  (refine AW.regionC fun Q' Kn hQ hK hK' => ?_; (repeat simp (disch := omega) only [go_sem, redN, Nat.reduceAdd, Int.reduceToNat, Int.reducePow]); (repeat' refine And.intro ?_ ?_); (try any_goals (first | (refine hK _ _ ?_; clear hK' hQ hK Q' Kn) | (intro hq9; refine ⟨hq9, ?_⟩; simp only [redB] at hq9; omega) | (intro hq9; refine ⟨hq9, fun hq8 => ?_⟩; rw [hq9, hq8]; rfl) | (simp; done) | omega | (simp only [redL]; omega) | (simp; omega) | (intros; (repeat' refine And.intro ?_ ?_) <;> (first | assumption | omega | (simp; done))))))
  (repeat' (first | refine AW.seq ?_ | refine AW.scope ?_ | refine AW.label ?_ | refine AW.block ?_ | refine AW.skip ?_ | refine AW.exit ?_ | refine AW.ret ?_))
  (refine AW.cond (by simp (disch := omega) only [go_sem, redN, Nat.reduceAdd, Int.reduceToNat, Int.reducePow]; rfl) (fun hb => ?_) (fun hb => ?_) <;> (try simp only [redB] at hb))
  all_goals (first | exact absurd hb (by decide) | skip)
  (repeat' (first | refine AW.seq ?_ | refine AW.scope ?_ | refine AW.label ?_ | refine AW.block ?_ | refine AW.skip ?_ | refine AW.exit ?_ | refine AW.ret ?_))
  (refine AW.regionC fun Q' Kn hQ hK hK' => ?_; (repeat simp (disch := omega) only [go_sem, redN, Nat.reduceAdd, Int.reduceToNat, Int.reducePow]); (repeat' refine And.intro ?_ ?_); (try any_goals (first | (refine hK _ _ ?_; clear hK' hQ hK Q' Kn) | (intro hq9; refine ⟨hq9, ?_⟩; simp only [redB] at hq9; omega) | (intro hq9; refine ⟨hq9, fun hq8 => ?_⟩; rw [hq9, hq8]; rfl) | (simp; done) | omega | (simp only [redL]; omega) | (simp; omega) | (intros; (repeat' refine And.intro ?_ ?_) <;> (first | assumption | omega | (simp; done))))))
  refine AOp.call rfl (by simp only [go_sem]; rfl) (by simp [go_sem]) rfl (ACalls.mono (by simp only [go_sem]; exact t_durDigit G _ 5 (by decide) (by decide) _) ?_)
  rintro e st' ⟨rfl, rfl⟩
  (refine AOpsC_ok hK' _ _ _ ?_; (repeat simp (disch := omega) only [go_sem, redN, Nat.reduceAdd, Int.reduceToNat, Int.reducePow]); (repeat' refine And.intro ?_ ?_); (try any_goals (first | (refine hK _ _ ?_; clear hK' hQ hK Q' Kn) | (intro hq9; refine ⟨hq9, ?_⟩; simp only [redB] at hq9; omega) | (intro hq9; refine ⟨hq9, fun hq8 => ?_⟩; rw [hq9, hq8]; rfl) | (simp; done) | omega | (simp only [redL]; omega) | (simp; omega) | (intros; (repeat' refine And.intro ?_ ?_) <;> (first | assumption | omega | (simp; done))))))
  (repeat' (first | refine AW.seq ?_ | refine AW.scope ?_ | refine AW.label ?_ | refine AW.block ?_ | refine AW.skip ?_ | refine AW.exit ?_ | refine AW.ret ?_))
  (refine AW.regionC fun Q' Kn hQ hK hK' => ?_; (repeat simp (disch := omega) only [go_sem, redN, Nat.reduceAdd, Int.reduceToNat, Int.reducePow]); (repeat' refine And.intro ?_ ?_); (try any_goals (first | (refine hK _ _ ?_; clear hK' hQ hK Q' Kn) | (intro hq9; refine ⟨hq9, ?_⟩; simp only [redB] at hq9; omega) | (intro hq9; refine ⟨hq9, fun hq8 => ?_⟩; rw [hq9, hq8]; rfl) | (simp; done) | omega | (simp only [redL]; omega) | (simp; omega) | (intros; (repeat' refine And.intro ?_ ?_) <;> (first | assumption | omega | (simp; done))))))
  (repeat' (first | refine AW.seq ?_ | refine AW.scope ?_ | refine AW.label ?_ | refine AW.block ?_ | refine AW.skip ?_ | refine AW.exit ?_ | refine AW.ret ?_))
  (refine ⟨_, _, rfl, by simp, ?_⟩; simp only [aTup, AA.get, List.getD_cons_zero, List.getD_cons_succ, true_and])
  rfl

end Go.Almanac

/- ValueReads: the law is not empty. -/
/-STEPS-/
namespace Go.Almanac
open Go.RowKit Go.Proofs Go.Abs

set_option linter.unusedSimpArgs false
set_option linter.unusedVariables false
set_option linter.unusedSectionVars false
set_option maxRecDepth 10000
set_option maxHeartbeats 1000000

theorem durF_awake1 : durF [45, 80, 49, 68, 84, 50, 72] = (-93600, 0) := by decide
theorem durF_awake2 : (durF [80, 84, 49, 72, 53, 83]).2 = 10 := by decide
theorem offF_awake : offF [45, 48, 49, 51, 48] = (-5400, 0) := by decide
theorem unF_awake : unF [97, 92, 44, 98] = ([97, 44, 98], 0) := by decide
theorem readStamp_awake : readStamp [50, 48, 50, 53, 48, 49, 48, 49, 84, 48, 48, 48, 48, 48, 48] = (1735689600, 0) := by
  rw [← readStamp_eq]
  decide
theorem timeF_awake : timeF [50, 48, 50, 53, 48, 49, 48, 49, 84, 48, 48, 48, 48, 48, 48, 90] = ((1735689600, true, false), 0) := by
  have e : Lib.trimSuffix [50, 48, 50, 53, 48, 49, 48, 49, 84, 48, 48, 48, 48, 48, 48, 90] [90] = [50, 48, 50, 53, 48, 49, 48, 49, 84, 48, 48, 48, 48, 48, 48] := by decide
  have e2 : Lib.hasSuffix [50, 48, 50, 53, 48, 49, 48, 49, 84, 48, 48, 48, 48, 48, 48, 90] [90] = true := by decide
  rw [timeF, if_neg (by decide), e, readStamp_awake, e2]
  rfl

attribute [local go_sem] whenE beq_self_eq_true Bool.and_true Bool.true_and Bool.and_self
theorem l_awake13 (m : Int) (st : St) : ACalls (Ev (Gt m)) 39 [] st (fun e st' => st' = st ∧ e = .ret (.bool true)) := by
  refine ACalls.of_body Tryz.func39 rfl ?_
  rw [Tryz.ntmps39]
  simp only [List.length_cons, List.length_nil, Nat.reduceAdd, Nat.reduceSub, List.replicate_succ, List.replicate_zero, List.cons_append, List.nil_append]
  (repeat' (first | refine AW.seq ?_ | refine AW.scope ?_ | refine AW.label ?_ | refine AW.block ?_ | refine AW.skip ?_ | refine AW.exit ?_ | refine AW.ret ?_))
  (refine AW.regionC fun Q' Kn hQ hK hK' => ?_; (repeat simp (config := { maxSteps := 4000000 }) (disch := omega) only [go_sem, redN, Nat.reduceAdd, Int.reduceToNat, Int.reducePow]); (repeat' refine And.intro ?_ ?_); (try any_goals (first | (refine hK _ _ ?_; clear hK' hQ hK Q' Kn) | (intro hq9; refine ⟨hq9, ?_⟩; simp only [redB] at hq9; omega) | (intro hq9; refine ⟨hq9, fun hq8 => ?_⟩; rw [hq9, hq8]; rfl) | (simp; done) | omega | (simp only [redL]; omega) | (simp; omega) | (intros; (repeat' refine And.intro ?_ ?_) <;> (first | assumption | omega | (simp; done))))))
  (repeat' (first | refine AW.seq ?_ | refine AW.scope ?_ | refine AW.label ?_ | refine AW.block ?_ | refine AW.skip ?_ | refine AW.exit ?_ | refine AW.ret ?_))
  (refine AW.regionC fun Q' Kn hQ hK hK' => ?_; (repeat simp (config := { maxSteps := 4000000 }) (disch := omega) only [go_sem, redN, Nat.reduceAdd, Int.reduceToNat, Int.reducePow]); (repeat' refine And.intro ?_ ?_); (try any_goals (first | (refine hK _ _ ?_; clear hK' hQ hK Q' Kn) | (intro hq9; refine ⟨hq9, ?_⟩; simp only [redB] at hq9; omega) | (intro hq9; refine ⟨hq9, fun hq8 => ?_⟩; rw [hq9, hq8]; rfl) | (simp; done) | omega | (simp only [redL]; omega) | (simp; omega) | (intros; (repeat' refine And.intro ?_ ?_) <;> (first | assumption | omega | (simp; done))))))
  refine AOp.call rfl (by simp only [go_sem]; rfl) (by simp [go_sem]) rfl (ACalls.mono (by simp only [go_sem]; exact t_Duration m [45, 80, 49, 68, 84, 50, 72] (by decide) _) ?_)
  rintro e st' ⟨rfl, rfl⟩
  (refine AOpsC_ok hK' _ _ _ ?_; (repeat simp (config := { maxSteps := 4000000 }) (disch := omega) only [go_sem, redN, Nat.reduceAdd, Int.reduceToNat, Int.reducePow]); (repeat' refine And.intro ?_ ?_); (try any_goals (first | (refine hK _ _ ?_; clear hK' hQ hK Q' Kn) | (intro hq9; refine ⟨hq9, ?_⟩; simp only [redB] at hq9; omega) | (intro hq9; refine ⟨hq9, fun hq8 => ?_⟩; rw [hq9, hq8]; rfl) | (simp; done) | omega | (simp only [redL]; omega) | (simp; omega) | (intros; (repeat' refine And.intro ?_ ?_) <;> (first | assumption | omega | (simp; done))))))
  rw [durF_awake1]
  (repeat' (first | refine AW.seq ?_ | refine AW.scope ?_ | refine AW.label ?_ | refine AW.block ?_ | refine AW.skip ?_ | refine AW.exit ?_ | refine AW.ret ?_))
  (refine AW.regionC fun Q' Kn hQ hK hK' => ?_; (repeat simp (config := { maxSteps := 4000000 }) (disch := omega) only [go_sem, redN, Nat.reduceAdd, Int.reduceToNat, Int.reducePow]); (repeat' refine And.intro ?_ ?_); (try any_goals (first | (refine hK _ _ ?_; clear hK' hQ hK Q' Kn) | (intro hq9; refine ⟨hq9, ?_⟩; simp only [redB] at hq9; omega) | (intro hq9; refine ⟨hq9, fun hq8 => ?_⟩; rw [hq9, hq8]; rfl) | (simp; done) | omega | (simp only [redL]; omega) | (simp; omega) | (intros; (repeat' refine And.intro ?_ ?_) <;> (first | assumption | omega | (simp; done))))))
  refine AOp.call rfl (by simp only [go_sem]; rfl) (by simp [go_sem]) rfl (ACalls.mono (by simp only [go_sem]; exact t_Offset (Gt m) [45, 48, 49, 51, 48] (by decide) _) ?_)
  rintro e st' ⟨rfl, rfl⟩
  (refine AOpsC_ok hK' _ _ _ ?_; (repeat simp (config := { maxSteps := 4000000 }) (disch := omega) only [go_sem, redN, Nat.reduceAdd, Int.reduceToNat, Int.reducePow]); (repeat' refine And.intro ?_ ?_); (try any_goals (first | (refine hK _ _ ?_; clear hK' hQ hK Q' Kn) | (intro hq9; refine ⟨hq9, ?_⟩; simp only [redB] at hq9; omega) | (intro hq9; refine ⟨hq9, fun hq8 => ?_⟩; rw [hq9, hq8]; rfl) | (simp; done) | omega | (simp only [redL]; omega) | (simp; omega) | (intros; (repeat' refine And.intro ?_ ?_) <;> (first | assumption | omega | (simp; done))))))
  rw [offF_awake]
  (repeat' (first | refine AW.seq ?_ | refine AW.scope ?_ | refine AW.label ?_ | refine AW.block ?_ | refine AW.skip ?_ | refine AW.exit ?_ | refine AW.ret ?_))
  (refine AW.regionC fun Q' Kn hQ hK hK' => ?_; (repeat simp (config := { maxSteps := 4000000 }) (disch := omega) only [go_sem, redN, Nat.reduceAdd, Int.reduceToNat, Int.reducePow]); (repeat' refine And.intro ?_ ?_); (try any_goals (first | (refine hK _ _ ?_; clear hK' hQ hK Q' Kn) | (intro hq9; refine ⟨hq9, ?_⟩; simp only [redB] at hq9; omega) | (intro hq9; refine ⟨hq9, fun hq8 => ?_⟩; rw [hq9, hq8]; rfl) | (simp; done) | omega | (simp only [redL]; omega) | (simp; omega) | (intros; (repeat' refine And.intro ?_ ?_) <;> (first | assumption | omega | (simp; done))))))
  refine AOp.call rfl (by simp only [go_sem]; rfl) (by simp [go_sem]) rfl (ACalls.mono (by simp only [go_sem]; exact t_Unescape m [97, 92, 44, 98] (by decide) _) ?_)
  rintro e st' ⟨rfl, rfl⟩
  (refine AOpsC_ok hK' _ _ _ ?_; (repeat simp (config := { maxSteps := 4000000 }) (disch := omega) only [go_sem, redN, Nat.reduceAdd, Int.reduceToNat, Int.reducePow]); (repeat' refine And.intro ?_ ?_); (try any_goals (first | (refine hK _ _ ?_; clear hK' hQ hK Q' Kn) | (intro hq9; refine ⟨hq9, ?_⟩; simp only [redB] at hq9; omega) | (intro hq9; refine ⟨hq9, fun hq8 => ?_⟩; rw [hq9, hq8]; rfl) | (simp; done) | omega | (simp only [redL]; omega) | (simp; omega) | (intros; (repeat' refine And.intro ?_ ?_) <;> (first | assumption | omega | (simp; done))))))
  rw [unF_awake]
  (repeat' (first | refine AW.seq ?_ | refine AW.scope ?_ | refine AW.label ?_ | refine AW.block ?_ | refine AW.skip ?_ | refine AW.exit ?_ | refine AW.ret ?_))
  (refine AW.regionC fun Q' Kn hQ hK hK' => ?_; (repeat simp (config := { maxSteps := 4000000 }) (disch := omega) only [go_sem, redN, Nat.reduceAdd, Int.reduceToNat, Int.reducePow]); (repeat' refine And.intro ?_ ?_); (try any_goals (first | (refine hK _ _ ?_; clear hK' hQ hK Q' Kn) | (intro hq9; refine ⟨hq9, ?_⟩; simp only [redB] at hq9; omega) | (intro hq9; refine ⟨hq9, fun hq8 => ?_⟩; rw [hq9, hq8]; rfl) | (simp; done) | omega | (simp only [redL]; omega) | (simp; omega) | (intros; (repeat' refine And.intro ?_ ?_) <;> (first | assumption | omega | (simp; done))))))
  refine AOp.call rfl (by simp only [go_sem]; rfl) (by simp [go_sem]) rfl (ACalls.mono (by simp only [go_sem]; exact t_Duration m [80, 84, 49, 72, 53, 83] (by decide) _) ?_)
  rintro e st' ⟨rfl, rfl⟩
  (refine AOpsC_ok hK' _ _ _ ?_; (repeat simp (config := { maxSteps := 4000000 }) (disch := omega) only [go_sem, redN, Nat.reduceAdd, Int.reduceToNat, Int.reducePow]); (repeat' refine And.intro ?_ ?_); (try any_goals (first | (refine hK _ _ ?_; clear hK' hQ hK Q' Kn) | (intro hq9; refine ⟨hq9, ?_⟩; simp only [redB] at hq9; omega) | (intro hq9; refine ⟨hq9, fun hq8 => ?_⟩; rw [hq9, hq8]; rfl) | (simp; done) | omega | (simp only [redL]; omega) | (simp; omega) | (intros; (repeat' refine And.intro ?_ ?_) <;> (first | assumption | omega | (simp; done))))))
  have hd2 := durF_awake2
  generalize durF [80, 84, 49, 72, 53, 83] = d at *
  obtain ⟨d1, d2⟩ := d
  dsimp only at hd2
  subst hd2
  (repeat' (first | refine AW.seq ?_ | refine AW.scope ?_ | refine AW.label ?_ | refine AW.block ?_ | refine AW.skip ?_ | refine AW.exit ?_ | refine AW.ret ?_))
  (refine AW.regionC fun Q' Kn hQ hK hK' => ?_; (repeat simp (config := { maxSteps := 4000000 }) (disch := omega) only [go_sem, redN, Nat.reduceAdd, Int.reduceToNat, Int.reducePow]); (repeat' refine And.intro ?_ ?_); (try any_goals (first | (refine hK _ _ ?_; clear hK' hQ hK Q' Kn) | (intro hq9; refine ⟨hq9, ?_⟩; simp only [redB] at hq9; omega) | (intro hq9; refine ⟨hq9, fun hq8 => ?_⟩; rw [hq9, hq8]; rfl) | (simp; done) | omega | (simp only [redL]; omega) | (simp; omega) | (intros; (repeat' refine And.intro ?_ ?_) <;> (first | assumption | omega | (simp; done))))))
  refine AOp.call rfl (by simp only [go_sem]; rfl) (by simp [go_sem]) rfl (ACalls.mono (by simp only [go_sem]; exact t_Time m [50, 48, 50, 53, 48, 49, 48, 49, 84, 48, 48, 48, 48, 48, 48, 90] (by decide) _) ?_)
  rintro e st' ⟨rfl, rfl⟩
  (refine AOpsC_ok hK' _ _ _ ?_; (repeat simp (config := { maxSteps := 4000000 }) (disch := omega) only [go_sem, redN, Nat.reduceAdd, Int.reduceToNat, Int.reducePow]); (repeat' refine And.intro ?_ ?_); (try any_goals (first | (refine hK _ _ ?_; clear hK' hQ hK Q' Kn) | (intro hq9; refine ⟨hq9, ?_⟩; simp only [redB] at hq9; omega) | (intro hq9; refine ⟨hq9, fun hq8 => ?_⟩; rw [hq9, hq8]; rfl) | (simp; done) | omega | (simp only [redL]; omega) | (simp; omega) | (intros; (repeat' refine And.intro ?_ ?_) <;> (first | assumption | omega | (simp; done))))))
  rw [timeF_awake]
  refine AOp.alloc rfl (by simp only [go_sem]; rfl) fun b9 hb9 => ?_
  (refine AOpsC_ok hK' _ _ _ ?_; (repeat simp (config := { maxSteps := 4000000 }) (disch := omega) only [go_sem, redN, Nat.reduceAdd, Int.reduceToNat, Int.reducePow]); (repeat' refine And.intro ?_ ?_); (try any_goals (first | (refine hK _ _ ?_; clear hK' hQ hK Q' Kn) | (intro hq9; refine ⟨hq9, ?_⟩; simp only [redB] at hq9; omega) | (intro hq9; refine ⟨hq9, fun hq8 => ?_⟩; rw [hq9, hq8]; rfl) | (simp; done) | omega | (simp only [redL]; omega) | (simp; omega) | (intros; (repeat' refine And.intro ?_ ?_) <;> (first | assumption | omega | (simp; done))))))
  refine AOp.storeAll (cs := [.int .i64 1735689600, .bool true, .bool false]) rfl (by simp only [go_sem] <;> rfl) (by simp [go_sem]) (St.set_same _ _ _) (by first | (simp only [go_sem]; done) | (simp [go_sem]; done) | (simp [go_sem]; omega)) (by simp [go_sem, isCell]) rfl rfl rfl ?_
  (refine AOpsC_ok hK' _ _ _ ?_; (repeat simp (config := { maxSteps := 4000000 }) (disch := omega) only [go_sem, redN, Nat.reduceAdd, Int.reduceToNat, Int.reducePow]); (repeat' refine And.intro ?_ ?_); (try any_goals (first | (refine hK _ _ ?_; clear hK' hQ hK Q' Kn) | (intro hq9; refine ⟨hq9, ?_⟩; simp only [redB] at hq9; omega) | (intro hq9; refine ⟨hq9, fun hq8 => ?_⟩; rw [hq9, hq8]; rfl) | (simp; done) | omega | (simp only [redL]; omega) | (simp; omega) | (intros; (repeat' refine And.intro ?_ ?_) <;> (first | assumption | omega | (simp; done))))))
  rw [St.set_set]
  refine AW.freeze 9 rfl (St.set_same _ _ _) ?_
  rw [St.del_set _ _ hb9]
  (repeat' (first | refine AW.seq ?_ | refine AW.scope ?_ | refine AW.label ?_ | refine AW.block ?_ | refine AW.skip ?_ | refine AW.exit ?_ | refine AW.ret ?_))
  (refine AW.regionC fun Q' Kn hQ hK hK' => ?_; (repeat simp (config := { maxSteps := 4000000 }) (disch := omega) only [go_sem, redN, Nat.reduceAdd, Int.reduceToNat, Int.reducePow]); (repeat' refine And.intro ?_ ?_); (try any_goals (first | (refine hK _ _ ?_; clear hK' hQ hK Q' Kn) | (intro hq9; refine ⟨hq9, ?_⟩; simp only [redB] at hq9; omega) | (intro hq9; refine ⟨hq9, fun hq8 => ?_⟩; rw [hq9, hq8]; rfl) | (simp; done) | omega | (simp only [redL]; omega) | (simp; omega) | (intros; (repeat' refine And.intro ?_ ?_) <;> (first | assumption | omega | (simp; done))))))
  refine AOps.guard_call (f := 40) (v := .str [80, 84, 49, 72, 48, 77, 53, 83]) rfl rfl rfl rfl rfl (fun _ => (by simp only [go_sem] <;> rfl)) (fun h => by first | (simp [go_sem]; done) | simpa [go_sem] using h) rfl (fun hg => by simp only [go_sem]; exact t_durText3 (Gt m) _) ?_
  (refine AOpsC_ok hK' _ _ _ ?_; (repeat simp (config := { maxSteps := 4000000 }) (disch := omega) only [go_sem, redN, Nat.reduceAdd, Int.reduceToNat, Int.reducePow]); (repeat' refine And.intro ?_ ?_); (try any_goals (first | (refine hK _ _ ?_; clear hK' hQ hK Q' Kn) | (intro hq9; refine ⟨hq9, ?_⟩; simp only [redB] at hq9; omega) | (intro hq9; refine ⟨hq9, fun hq8 => ?_⟩; rw [hq9, hq8]; rfl) | (simp; done) | omega | (simp only [redL]; omega) | (simp; omega) | (intros; (repeat' refine And.intro ?_ ?_) <;> (first | assumption | omega | (simp; done))))))
  refine AOps.guard_call (f := 40) (v := .str [80, 49, 87]) rfl rfl rfl rfl rfl (fun _ => (by simp only [go_sem] <;> rfl)) (fun h => by first | (simp [go_sem]; done) | simpa [go_sem] using h) rfl (fun hg => by simp only [go_sem]; exact t_durText7 (Gt m) _) ?_
  (refine AOpsC_ok hK' _ _ _ ?_; (repeat simp (config := { maxSteps := 4000000 }) (disch := omega) only [go_sem, redN, Nat.reduceAdd, Int.reduceToNat, Int.reducePow]); (repeat' refine And.intro ?_ ?_); (try any_goals (first | (refine hK _ _ ?_; clear hK' hQ hK Q' Kn) | (intro hq9; refine ⟨hq9, ?_⟩; simp only [redB] at hq9; omega) | (intro hq9; refine ⟨hq9, fun hq8 => ?_⟩; rw [hq9, hq8]; rfl) | (simp; done) | omega | (simp only [redL]; omega) | (simp; omega) | (intros; (repeat' refine And.intro ?_ ?_) <;> (first | assumption | omega | (simp; done))))))
  refine AOps.guard_call (f := 40) (v := .str [80, 84, 48, 83]) rfl rfl rfl rfl rfl (fun _ => (by simp only [go_sem] <;> rfl)) (fun h => by first | (simp [go_sem]; done) | simpa [go_sem] using h) rfl (fun hg => by simp only [go_sem]; exact t_durText0 (Gt m) _) ?_
  (refine AOpsC_ok hK' _ _ _ ?_; (repeat simp (config := { maxSteps := 4000000 }) (disch := omega) only [go_sem, redN, Nat.reduceAdd, Int.reduceToNat, Int.reducePow]); (repeat' refine And.intro ?_ ?_); (try any_goals (first | (refine hK _ _ ?_; clear hK' hQ hK Q' Kn) | (intro hq9; refine ⟨hq9, ?_⟩; simp only [redB] at hq9; omega) | (intro hq9; refine ⟨hq9, fun hq8 => ?_⟩; rw [hq9, hq8]; rfl) | (simp; done) | omega | (simp only [redL]; omega) | (simp; omega) | (intros; (repeat' refine And.intro ?_ ?_) <;> (first | assumption | omega | (simp; done))))))
  refine AOps.guard_eqAgg rfl rfl rfl rfl rfl (fun h => by first | (simp [go_sem]; done) | simpa [go_sem] using h) (fun _ => (by simp only [go_sem] <;> rfl)) (fun _ => (by simp only [go_sem] <;> rfl)) rfl rfl guard_When (fun w => eq_when _ _ _ _ _ _ w) ?_
  (refine AOpsC_ok hK' _ _ _ ?_; (repeat simp (config := { maxSteps := 4000000 }) (disch := omega) only [go_sem, redN, Nat.reduceAdd, Int.reduceToNat, Int.reducePow]); (repeat' refine And.intro ?_ ?_); (try any_goals (first | (refine hK _ _ ?_; clear hK' hQ hK Q' Kn) | (intro hq9; refine ⟨hq9, ?_⟩; simp only [redB] at hq9; omega) | (intro hq9; refine ⟨hq9, fun hq8 => ?_⟩; rw [hq9, hq8]; rfl) | (simp; done) | omega | (simp only [redL]; omega) | (simp; omega) | (intros; (repeat' refine And.intro ?_ ?_) <;> (first | assumption | omega | (simp; done))))))
  (repeat' (first | refine AW.seq ?_ | refine AW.scope ?_ | refine AW.label ?_ | refine AW.block ?_ | refine AW.skip ?_ | refine AW.exit ?_ | refine AW.ret ?_))
  (refine ⟨_, _, rfl, by simp, ?_⟩; simp only [aTup, AA.get, List.getD_cons_zero, List.getD_cons_succ, true_and])
end Go.Almanac

/- ValueReads: the law, walked. -/
/-STEPS-/
namespace Go.Almanac
open Go.RowKit Go.Proofs Go.Abs

set_option linter.unusedSimpArgs false
set_option linter.unusedVariables false
set_option linter.unusedSectionVars false
set_option maxRecDepth 10000
set_option maxHeartbeats 1000000

theorem timesL_len : ∀ {L : List (List UInt8)} {o : List (Int × Bool × Bool)}, timesL L = some o → o.length = L.length
  | [], o, h => by simp [timesL] at h; subst h; rfl
  | x :: L, o, h => by
    rw [timesL] at h
    split at h
    · cases h2 : timesL L with
      | none => rw [h2] at h; cases h
      | some o2 =>
        rw [h2] at h
        cases h
        simp [timesL_len h2]
    · cases h
theorem timesF_len (s : List UInt8) : (timesF s).1.length ≤ 4611686018427387904 := by
  unfold timesF timesC
  split
  · simp
  · split
    · rename_i o h
      have := timesL_len h
      dsimp only
      omega
    · simp
attribute [local go_sem] whenE periodE beq_self_eq_true Bool.and_true Bool.true_and Bool.and_self bne_self_eq_false
theorem l_ValueReads (m : Int) (s : List UInt8) (hs : s.length ≤ 1048576) (st : St) : ACalls (Ev (Gt m)) 6 [.str s] st (fun e st' => st' = st ∧ e = .ret (.bool true)) := by
  refine ACalls.of_body Tryz.func6 rfl ?_
  rw [Tryz.ntmps6]
  simp only [List.length_cons, List.length_nil, Nat.reduceAdd, Nat.reduceSub, List.replicate_succ, List.replicate_zero, List.cons_append, List.nil_append]
  (repeat' (first | refine AW.seq ?_ | refine AW.scope ?_ | refine AW.label ?_ | refine AW.block ?_ | refine AW.skip ?_ | refine AW.exit ?_ | refine AW.ret ?_))
  (refine AW.regionC fun Q' Kn hQ hK hK' => ?_; (repeat simp (config := { maxSteps := 4000000 }) (disch := omega) only [go_sem, redN, Nat.reduceAdd, Int.reduceToNat, Int.reducePow]); (repeat' refine And.intro ?_ ?_); (try any_goals (first | (refine hK _ _ ?_; clear hK' hQ hK Q' Kn) | (intro hq9; refine ⟨hq9, ?_⟩; simp only [redB] at hq9; omega) | (intro hq9; refine ⟨hq9, fun hq8 => ?_⟩; rw [hq9, hq8]; rfl) | (simp; done) | omega | (simp only [redL]; omega) | (simp; omega) | (intros; (repeat' refine And.intro ?_ ?_) <;> (first | assumption | omega | (simp; done))))))
  (repeat' (first | refine AW.seq ?_ | refine AW.scope ?_ | refine AW.label ?_ | refine AW.block ?_ | refine AW.skip ?_ | refine AW.exit ?_ | refine AW.ret ?_))
  (refine AW.regionC fun Q' Kn hQ hK hK' => ?_; (repeat simp (config := { maxSteps := 4000000 }) (disch := omega) only [go_sem, redN, Nat.reduceAdd, Int.reduceToNat, Int.reducePow]); (repeat' refine And.intro ?_ ?_); (try any_goals (first | (refine hK _ _ ?_; clear hK' hQ hK Q' Kn) | (intro hq9; refine ⟨hq9, ?_⟩; simp only [redB] at hq9; omega) | (intro hq9; refine ⟨hq9, fun hq8 => ?_⟩; rw [hq9, hq8]; rfl) | (simp; done) | omega | (simp only [redL]; omega) | (simp; omega) | (intros; (repeat' refine And.intro ?_ ?_) <;> (first | assumption | omega | (simp; done))))))
  refine AOp.call rfl (by simp only [go_sem]; rfl) (by simp [go_sem]) rfl (ACalls.mono (by simp only [go_sem]; exact t_Duration m s hs _) ?_)
  rintro e st' ⟨rfl, rfl⟩
  (refine AOpsC_ok hK' _ _ _ ?_; (repeat simp (config := { maxSteps := 4000000 }) (disch := omega) only [go_sem, redN, Nat.reduceAdd, Int.reduceToNat, Int.reducePow]); (repeat' refine And.intro ?_ ?_); (try any_goals (first | (refine hK _ _ ?_; clear hK' hQ hK Q' Kn) | (intro hq9; refine ⟨hq9, ?_⟩; simp only [redB] at hq9; omega) | (intro hq9; refine ⟨hq9, fun hq8 => ?_⟩; rw [hq9, hq8]; rfl) | (simp; done) | omega | (simp only [redL]; omega) | (simp; omega) | (intros; (repeat' refine And.intro ?_ ?_) <;> (first | assumption | omega | (simp; done))))))
  (repeat' (first | refine AW.seq ?_ | refine AW.scope ?_ | refine AW.label ?_ | refine AW.block ?_ | refine AW.skip ?_ | refine AW.exit ?_ | refine AW.ret ?_))
  (refine AW.regionC fun Q' Kn hQ hK hK' => ?_; (repeat simp (config := { maxSteps := 4000000 }) (disch := omega) only [go_sem, redN, Nat.reduceAdd, Int.reduceToNat, Int.reducePow]); (repeat' refine And.intro ?_ ?_); (try any_goals (first | (refine hK _ _ ?_; clear hK' hQ hK Q' Kn) | (intro hq9; refine ⟨hq9, ?_⟩; simp only [redB] at hq9; omega) | (intro hq9; refine ⟨hq9, fun hq8 => ?_⟩; rw [hq9, hq8]; rfl) | (simp; done) | omega | (simp only [redL]; omega) | (simp; omega) | (intros; (repeat' refine And.intro ?_ ?_) <;> (first | assumption | omega | (simp; done))))))
  refine AOp.call rfl (by simp only [go_sem]; rfl) (by simp [go_sem]) rfl (ACalls.mono (by simp only [go_sem]; exact r_DurationF (Gt m) s hs _) ?_)
  rintro e st' ⟨rfl, rfl⟩
  (refine AOpsC_ok hK' _ _ _ ?_; (repeat simp (config := { maxSteps := 4000000 }) (disch := omega) only [go_sem, redN, Nat.reduceAdd, Int.reduceToNat, Int.reducePow]); (repeat' refine And.intro ?_ ?_); (try any_goals (first | (refine hK _ _ ?_; clear hK' hQ hK Q' Kn) | (intro hq9; refine ⟨hq9, ?_⟩; simp only [redB] at hq9; omega) | (intro hq9; refine ⟨hq9, fun hq8 => ?_⟩; rw [hq9, hq8]; rfl) | (simp; done) | omega | (simp only [redL]; omega) | (simp; omega) | (intros; (repeat' refine And.intro ?_ ?_) <;> (first | assumption | omega | (simp; done))))))
  (repeat' (first | refine AW.seq ?_ | refine AW.scope ?_ | refine AW.label ?_ | refine AW.block ?_ | refine AW.skip ?_ | refine AW.exit ?_ | refine AW.ret ?_))
  (refine AW.regionC fun Q' Kn hQ hK hK' => ?_; (repeat simp (config := { maxSteps := 4000000 }) (disch := omega) only [go_sem, redN, Nat.reduceAdd, Int.reduceToNat, Int.reducePow]); (repeat' refine And.intro ?_ ?_); (try any_goals (first | (refine hK _ _ ?_; clear hK' hQ hK Q' Kn) | (intro hq9; refine ⟨hq9, ?_⟩; simp only [redB] at hq9; omega) | (intro hq9; refine ⟨hq9, fun hq8 => ?_⟩; rw [hq9, hq8]; rfl) | (simp; done) | omega | (simp only [redL]; omega) | (simp; omega) | (intros; (repeat' refine And.intro ?_ ?_) <;> (first | assumption | omega | (simp; done))))))
  refine AOp.call rfl (by simp only [go_sem]; rfl) (by simp [go_sem]) rfl (ACalls.mono (by simp only [go_sem]; exact t_Offset (Gt m) s hs _) ?_)
  rintro e st' ⟨rfl, rfl⟩
  (refine AOpsC_ok hK' _ _ _ ?_; (repeat simp (config := { maxSteps := 4000000 }) (disch := omega) only [go_sem, redN, Nat.reduceAdd, Int.reduceToNat, Int.reducePow]); (repeat' refine And.intro ?_ ?_); (try any_goals (first | (refine hK _ _ ?_; clear hK' hQ hK Q' Kn) | (intro hq9; refine ⟨hq9, ?_⟩; simp only [redB] at hq9; omega) | (intro hq9; refine ⟨hq9, fun hq8 => ?_⟩; rw [hq9, hq8]; rfl) | (simp; done) | omega | (simp only [redL]; omega) | (simp; omega) | (intros; (repeat' refine And.intro ?_ ?_) <;> (first | assumption | omega | (simp; done))))))
  (repeat' (first | refine AW.seq ?_ | refine AW.scope ?_ | refine AW.label ?_ | refine AW.block ?_ | refine AW.skip ?_ | refine AW.exit ?_ | refine AW.ret ?_))
  (refine AW.regionC fun Q' Kn hQ hK hK' => ?_; (repeat simp (config := { maxSteps := 4000000 }) (disch := omega) only [go_sem, redN, Nat.reduceAdd, Int.reduceToNat, Int.reducePow]); (repeat' refine And.intro ?_ ?_); (try any_goals (first | (refine hK _ _ ?_; clear hK' hQ hK Q' Kn) | (intro hq9; refine ⟨hq9, ?_⟩; simp only [redB] at hq9; omega) | (intro hq9; refine ⟨hq9, fun hq8 => ?_⟩; rw [hq9, hq8]; rfl) | (simp; done) | omega | (simp only [redL]; omega) | (simp; omega) | (intros; (repeat' refine And.intro ?_ ?_) <;> (first | assumption | omega | (simp; done))))))
  refine AOp.call rfl (by simp only [go_sem]; rfl) (by simp [go_sem]) rfl (ACalls.mono (by simp only [go_sem]; exact r_Offset (Gt m) s hs _) ?_)
  rintro e st' ⟨rfl, rfl⟩
  (refine AOpsC_ok hK' _ _ _ ?_; (repeat simp (config := { maxSteps := 4000000 }) (disch := omega) only [go_sem, redN, Nat.reduceAdd, Int.reduceToNat, Int.reducePow]); (repeat' refine And.intro ?_ ?_); (try any_goals (first | (refine hK _ _ ?_; clear hK' hQ hK Q' Kn) | (intro hq9; refine ⟨hq9, ?_⟩; simp only [redB] at hq9; omega) | (intro hq9; refine ⟨hq9, fun hq8 => ?_⟩; rw [hq9, hq8]; rfl) | (simp; done) | omega | (simp only [redL]; omega) | (simp; omega) | (intros; (repeat' refine And.intro ?_ ?_) <;> (first | assumption | omega | (simp; done))))))
  (repeat' (first | refine AW.seq ?_ | refine AW.scope ?_ | refine AW.label ?_ | refine AW.block ?_ | refine AW.skip ?_ | refine AW.exit ?_ | refine AW.ret ?_))
  (refine AW.regionC fun Q' Kn hQ hK hK' => ?_; (repeat simp (config := { maxSteps := 4000000 }) (disch := omega) only [go_sem, redN, Nat.reduceAdd, Int.reduceToNat, Int.reducePow]); (repeat' refine And.intro ?_ ?_); (try any_goals (first | (refine hK _ _ ?_; clear hK' hQ hK Q' Kn) | (intro hq9; refine ⟨hq9, ?_⟩; simp only [redB] at hq9; omega) | (intro hq9; refine ⟨hq9, fun hq8 => ?_⟩; rw [hq9, hq8]; rfl) | (simp; done) | omega | (simp only [redL]; omega) | (simp; omega) | (intros; (repeat' refine And.intro ?_ ?_) <;> (first | assumption | omega | (simp; done))))))
  refine AOp.call rfl (by simp only [go_sem]; rfl) (by simp [go_sem]) rfl (ACalls.mono (by simp only [go_sem]; exact t_Unescape m s hs _) ?_)
  rintro e st' ⟨rfl, rfl⟩
  (refine AOpsC_ok hK' _ _ _ ?_; (repeat simp (config := { maxSteps := 4000000 }) (disch := omega) only [go_sem, redN, Nat.reduceAdd, Int.reduceToNat, Int.reducePow]); (repeat' refine And.intro ?_ ?_); (try any_goals (first | (refine hK _ _ ?_; clear hK' hQ hK Q' Kn) | (intro hq9; refine ⟨hq9, ?_⟩; simp only [redB] at hq9; omega) | (intro hq9; refine ⟨hq9, fun hq8 => ?_⟩; rw [hq9, hq8]; rfl) | (simp; done) | omega | (simp only [redL]; omega) | (simp; omega) | (intros; (repeat' refine And.intro ?_ ?_) <;> (first | assumption | omega | (simp; done))))))
  (repeat' (first | refine AW.seq ?_ | refine AW.scope ?_ | refine AW.label ?_ | refine AW.block ?_ | refine AW.skip ?_ | refine AW.exit ?_ | refine AW.ret ?_))
  (refine AW.regionC fun Q' Kn hQ hK hK' => ?_; (repeat simp (config := { maxSteps := 4000000 }) (disch := omega) only [go_sem, redN, Nat.reduceAdd, Int.reduceToNat, Int.reducePow]); (repeat' refine And.intro ?_ ?_); (try any_goals (first | (refine hK _ _ ?_; clear hK' hQ hK Q' Kn) | (intro hq9; refine ⟨hq9, ?_⟩; simp only [redB] at hq9; omega) | (intro hq9; refine ⟨hq9, fun hq8 => ?_⟩; rw [hq9, hq8]; rfl) | (simp; done) | omega | (simp only [redL]; omega) | (simp; omega) | (intros; (repeat' refine And.intro ?_ ?_) <;> (first | assumption | omega | (simp; done))))))
  refine AOp.call rfl (by simp only [go_sem]; rfl) (by simp [go_sem]) rfl (ACalls.mono (by simp only [go_sem]; exact r_Unescape (Gt m) s hs _) ?_)
  rintro e st' ⟨rfl, rfl⟩
  (refine AOpsC_ok hK' _ _ _ ?_; (repeat simp (config := { maxSteps := 4000000 }) (disch := omega) only [go_sem, redN, Nat.reduceAdd, Int.reduceToNat, Int.reducePow]); (repeat' refine And.intro ?_ ?_); (try any_goals (first | (refine hK _ _ ?_; clear hK' hQ hK Q' Kn) | (intro hq9; refine ⟨hq9, ?_⟩; simp only [redB] at hq9; omega) | (intro hq9; refine ⟨hq9, fun hq8 => ?_⟩; rw [hq9, hq8]; rfl) | (simp; done) | omega | (simp only [redL]; omega) | (simp; omega) | (intros; (repeat' refine And.intro ?_ ?_) <;> (first | assumption | omega | (simp; done))))))
  (repeat' (first | refine AW.seq ?_ | refine AW.scope ?_ | refine AW.label ?_ | refine AW.block ?_ | refine AW.skip ?_ | refine AW.exit ?_ | refine AW.ret ?_))
  (refine AW.regionC fun Q' Kn hQ hK hK' => ?_; (repeat simp (config := { maxSteps := 4000000 }) (disch := omega) only [go_sem, redN, Nat.reduceAdd, Int.reduceToNat, Int.reducePow]); (repeat' refine And.intro ?_ ?_); (try any_goals (first | (refine hK _ _ ?_; clear hK' hQ hK Q' Kn) | (intro hq9; refine ⟨hq9, ?_⟩; simp only [redB] at hq9; omega) | (intro hq9; refine ⟨hq9, fun hq8 => ?_⟩; rw [hq9, hq8]; rfl) | (simp; done) | omega | (simp only [redL]; omega) | (simp; omega) | (intros; (repeat' refine And.intro ?_ ?_) <;> (first | assumption | omega | (simp; done))))))
  (repeat' (first | refine AW.seq ?_ | refine AW.scope ?_ | refine AW.label ?_ | refine AW.block ?_ | refine AW.skip ?_ | refine AW.exit ?_ | refine AW.ret ?_))
  (refine AW.cond (by simp (config := { maxSteps := 4000000 }) (disch := omega) only [go_sem, redN, Nat.reduceAdd, Int.reduceToNat, Int.reducePow]; rfl) (fun hb => ?_) (fun hb => ?_) <;> (try simp only [redB] at hb))
  have hw := timesF_len s
  generalize durF s = fd at *
  generalize offF s = fo at *
  generalize unF s = fu at *
  (repeat' (first | refine AW.seq ?_ | refine AW.scope ?_ | refine AW.label ?_ | refine AW.block ?_ | refine AW.skip ?_ | refine AW.exit ?_ | refine AW.ret ?_))
  (refine AW.regionC fun Q' Kn hQ hK hK' => ?_; (repeat simp (config := { maxSteps := 4000000 }) (disch := omega) only [go_sem, redN, Nat.reduceAdd, Int.reduceToNat, Int.reducePow]); (repeat' refine And.intro ?_ ?_); (try any_goals (first | (refine hK _ _ ?_; clear hK' hQ hK Q' Kn) | (intro hq9; refine ⟨hq9, ?_⟩; simp only [redB] at hq9; omega) | (intro hq9; refine ⟨hq9, fun hq8 => ?_⟩; rw [hq9, hq8]; rfl) | (simp; done) | omega | (simp only [redL]; omega) | (simp; omega) | (intros; (repeat' refine And.intro ?_ ?_) <;> (first | assumption | omega | (simp; done))))))
  refine AOp.call rfl (by simp only [go_sem]; rfl) (by simp [go_sem]) rfl (ACalls.mono (by simp only [go_sem]; exact t_Time m s hs _) ?_)
  rintro e st' ⟨rfl, rfl⟩
  (refine AOpsC_ok hK' _ _ _ ?_; (repeat simp (config := { maxSteps := 4000000 }) (disch := omega) only [go_sem, redN, Nat.reduceAdd, Int.reduceToNat, Int.reducePow]); (repeat' refine And.intro ?_ ?_); (try any_goals (first | (refine hK _ _ ?_; clear hK' hQ hK Q' Kn) | (intro hq9; refine ⟨hq9, ?_⟩; simp only [redB] at hq9; omega) | (intro hq9; refine ⟨hq9, fun hq8 => ?_⟩; rw [hq9, hq8]; rfl) | (simp; done) | omega | (simp only [redL]; omega) | (simp; omega) | (intros; (repeat' refine And.intro ?_ ?_) <;> (first | assumption | omega | (simp; done))))))
  refine AOp.alloc rfl (by simp only [go_sem]; rfl) fun b15 hb15 => ?_
  (refine AOpsC_ok hK' _ _ _ ?_; (repeat simp (config := { maxSteps := 4000000 }) (disch := omega) only [go_sem, redN, Nat.reduceAdd, Int.reduceToNat, Int.reducePow]); (repeat' refine And.intro ?_ ?_); (try any_goals (first | (refine hK _ _ ?_; clear hK' hQ hK Q' Kn) | (intro hq9; refine ⟨hq9, ?_⟩; simp only [redB] at hq9; omega) | (intro hq9; refine ⟨hq9, fun hq8 => ?_⟩; rw [hq9, hq8]; rfl) | (simp; done) | omega | (simp only [redL]; omega) | (simp; omega) | (intros; (repeat' refine And.intro ?_ ?_) <;> (first | assumption | omega | (simp; done))))))
  refine AOp.storeAll (cs := [.int .i64 (timeF s).1.1, .bool (timeF s).1.2.1, .bool (timeF s).1.2.2]) rfl (by simp only [go_sem] <;> rfl) (by simp [go_sem]) (St.set_same _ _ _) (by first | (simp only [go_sem]; done) | (simp [go_sem]; done) | (simp [go_sem]; omega)) (by simp [go_sem, isCell]) rfl rfl rfl ?_
  (refine AOpsC_ok hK' _ _ _ ?_; (repeat simp (config := { maxSteps := 4000000 }) (disch := omega) only [go_sem, redN, Nat.reduceAdd, Int.reduceToNat, Int.reducePow]); (repeat' refine And.intro ?_ ?_); (try any_goals (first | (refine hK _ _ ?_; clear hK' hQ hK Q' Kn) | (intro hq9; refine ⟨hq9, ?_⟩; simp only [redB] at hq9; omega) | (intro hq9; refine ⟨hq9, fun hq8 => ?_⟩; rw [hq9, hq8]; rfl) | (simp; done) | omega | (simp only [redL]; omega) | (simp; omega) | (intros; (repeat' refine And.intro ?_ ?_) <;> (first | assumption | omega | (simp; done))))))
  rw [St.set_set]
  refine AW.freeze 15 rfl (St.set_same _ _ _) ?_
  rw [St.del_set _ _ hb15]
  (repeat' (first | refine AW.seq ?_ | refine AW.scope ?_ | refine AW.label ?_ | refine AW.block ?_ | refine AW.skip ?_ | refine AW.exit ?_ | refine AW.ret ?_))
  (refine AW.regionC fun Q' Kn hQ hK hK' => ?_; (repeat simp (config := { maxSteps := 4000000 }) (disch := omega) only [go_sem, redN, Nat.reduceAdd, Int.reduceToNat, Int.reducePow]); (repeat' refine And.intro ?_ ?_); (try any_goals (first | (refine hK _ _ ?_; clear hK' hQ hK Q' Kn) | (intro hq9; refine ⟨hq9, ?_⟩; simp only [redB] at hq9; omega) | (intro hq9; refine ⟨hq9, fun hq8 => ?_⟩; rw [hq9, hq8]; rfl) | (simp; done) | omega | (simp only [redL]; omega) | (simp; omega) | (intros; (repeat' refine And.intro ?_ ?_) <;> (first | assumption | omega | (simp; done))))))
  refine AOp.call rfl (by simp only [go_sem]; rfl) (by simp [go_sem]) rfl (ACalls.mono (by simp only [go_sem]; exact r_Time (Gt m) s hs _) ?_)
  rintro e st' ⟨rfl, rfl⟩
  (refine AOpsC_ok hK' _ _ _ ?_; (repeat simp (config := { maxSteps := 4000000 }) (disch := omega) only [go_sem, redN, Nat.reduceAdd, Int.reduceToNat, Int.reducePow]); (repeat' refine And.intro ?_ ?_); (try any_goals (first | (refine hK _ _ ?_; clear hK' hQ hK Q' Kn) | (intro hq9; refine ⟨hq9, ?_⟩; simp only [redB] at hq9; omega) | (intro hq9; refine ⟨hq9, fun hq8 => ?_⟩; rw [hq9, hq8]; rfl) | (simp; done) | omega | (simp only [redL]; omega) | (simp; omega) | (intros; (repeat' refine And.intro ?_ ?_) <;> (first | assumption | omega | (simp; done))))))
  refine AOp.alloc rfl (by simp only [go_sem]; rfl) fun b17 hb17 => ?_
  (refine AOpsC_ok hK' _ _ _ ?_; (repeat simp (config := { maxSteps := 4000000 }) (disch := omega) only [go_sem, redN, Nat.reduceAdd, Int.reduceToNat, Int.reducePow]); (repeat' refine And.intro ?_ ?_); (try any_goals (first | (refine hK _ _ ?_; clear hK' hQ hK Q' Kn) | (intro hq9; refine ⟨hq9, ?_⟩; simp only [redB] at hq9; omega) | (intro hq9; refine ⟨hq9, fun hq8 => ?_⟩; rw [hq9, hq8]; rfl) | (simp; done) | omega | (simp only [redL]; omega) | (simp; omega) | (intros; (repeat' refine And.intro ?_ ?_) <;> (first | assumption | omega | (simp; done))))))
  refine AOp.storeAll (cs := [.int .i64 (timeF s).1.1, .bool (timeF s).1.2.1, .bool (timeF s).1.2.2]) rfl (by simp only [go_sem] <;> rfl) (by simp [go_sem]) (St.set_same _ _ _) (by first | (simp only [go_sem]; done) | (simp [go_sem]; done) | (simp [go_sem]; omega)) (by simp [go_sem, isCell]) rfl rfl rfl ?_
  (refine AOpsC_ok hK' _ _ _ ?_; (repeat simp (config := { maxSteps := 4000000 }) (disch := omega) only [go_sem, redN, Nat.reduceAdd, Int.reduceToNat, Int.reducePow]); (repeat' refine And.intro ?_ ?_); (try any_goals (first | (refine hK _ _ ?_; clear hK' hQ hK Q' Kn) | (intro hq9; refine ⟨hq9, ?_⟩; simp only [redB] at hq9; omega) | (intro hq9; refine ⟨hq9, fun hq8 => ?_⟩; rw [hq9, hq8]; rfl) | (simp; done) | omega | (simp only [redL]; omega) | (simp; omega) | (intros; (repeat' refine And.intro ?_ ?_) <;> (first | assumption | omega | (simp; done))))))
  rw [St.set_set]
  refine AW.freeze 17 rfl (St.set_same _ _ _) ?_
  rw [St.del_set _ _ hb17]
  (repeat' (first | refine AW.seq ?_ | refine AW.scope ?_ | refine AW.label ?_ | refine AW.block ?_ | refine AW.skip ?_ | refine AW.exit ?_ | refine AW.ret ?_))
  (refine AW.regionC fun Q' Kn hQ hK hK' => ?_; (repeat simp (config := { maxSteps := 4000000 }) (disch := omega) only [go_sem, redN, Nat.reduceAdd, Int.reduceToNat, Int.reducePow]); (repeat' refine And.intro ?_ ?_); (try any_goals (first | (refine hK _ _ ?_; clear hK' hQ hK Q' Kn) | (intro hq9; refine ⟨hq9, ?_⟩; simp only [redB] at hq9; omega) | (intro hq9; refine ⟨hq9, fun hq8 => ?_⟩; rw [hq9, hq8]; rfl) | (simp; done) | omega | (simp only [redL]; omega) | (simp; omega) | (intros; (repeat' refine And.intro ?_ ?_) <;> (first | assumption | omega | (simp; done))))))
  refine AOp.call rfl (by simp only [go_sem]; rfl) (by simp [go_sem]) rfl (ACalls.mono (by simp only [go_sem]; exact t_Times m s hs _) ?_)
  rintro e st' ⟨rfl, rfl⟩
  (refine AOpsC_ok hK' _ _ _ ?_; (repeat simp (config := { maxSteps := 4000000 }) (disch := omega) only [go_sem, redN, Nat.reduceAdd, Int.reduceToNat, Int.reducePow]); (repeat' refine And.intro ?_ ?_); (try any_goals (first | (refine hK _ _ ?_; clear hK' hQ hK Q' Kn) | (intro hq9; refine ⟨hq9, ?_⟩; simp only [redB] at hq9; omega) | (intro hq9; refine ⟨hq9, fun hq8 => ?_⟩; rw [hq9, hq8]; rfl) | (simp; done) | omega | (simp only [redL]; omega) | (simp; omega) | (intros; (repeat' refine And.intro ?_ ?_) <;> (first | assumption | omega | (simp; done))))))
  (repeat' (first | refine AW.seq ?_ | refine AW.scope ?_ | refine AW.label ?_ | refine AW.block ?_ | refine AW.skip ?_ | refine AW.exit ?_ | refine AW.ret ?_))
  (refine AW.regionC fun Q' Kn hQ hK hK' => ?_; (repeat simp (config := { maxSteps := 4000000 }) (disch := omega) only [go_sem, redN, Nat.reduceAdd, Int.reduceToNat, Int.reducePow]); (repeat' refine And.intro ?_ ?_); (try any_goals (first | (refine hK _ _ ?_; clear hK' hQ hK Q' Kn) | (intro hq9; refine ⟨hq9, ?_⟩; simp only [redB] at hq9; omega) | (intro hq9; refine ⟨hq9, fun hq8 => ?_⟩; rw [hq9, hq8]; rfl) | (simp; done) | omega | (simp only [redL]; omega) | (simp; omega) | (intros; (repeat' refine And.intro ?_ ?_) <;> (first | assumption | omega | (simp; done))))))
  refine AOp.call rfl (by simp only [go_sem]; rfl) (by simp [go_sem]) rfl (ACalls.mono (by simp only [go_sem]; exact r_Times m s hs _) ?_)
  rintro e st' ⟨rfl, rfl⟩
  (refine AOpsC_ok hK' _ _ _ ?_; (repeat simp (config := { maxSteps := 4000000 }) (disch := omega) only [go_sem, redN, Nat.reduceAdd, Int.reduceToNat, Int.reducePow]); (repeat' refine And.intro ?_ ?_); (try any_goals (first | (refine hK _ _ ?_; clear hK' hQ hK Q' Kn) | (intro hq9; refine ⟨hq9, ?_⟩; simp only [redB] at hq9; omega) | (intro hq9; refine ⟨hq9, fun hq8 => ?_⟩; rw [hq9, hq8]; rfl) | (simp; done) | omega | (simp only [redL]; omega) | (simp; omega) | (intros; (repeat' refine And.intro ?_ ?_) <;> (first | assumption | omega | (simp; done))))))
  (repeat' (first | refine AW.seq ?_ | refine AW.scope ?_ | refine AW.label ?_ | refine AW.block ?_ | refine AW.skip ?_ | refine AW.exit ?_ | refine AW.ret ?_))
  (refine AW.regionC fun Q' Kn hQ hK hK' => ?_; (repeat simp (config := { maxSteps := 4000000 }) (disch := omega) only [go_sem, redN, Nat.reduceAdd, Int.reduceToNat, Int.reducePow]); (repeat' refine And.intro ?_ ?_); (try any_goals (first | (refine hK _ _ ?_; clear hK' hQ hK Q' Kn) | (intro hq9; refine ⟨hq9, ?_⟩; simp only [redB] at hq9; omega) | (intro hq9; refine ⟨hq9, fun hq8 => ?_⟩; rw [hq9, hq8]; rfl) | (simp; done) | omega | (simp only [redL]; omega) | (simp; omega) | (intros; (repeat' refine And.intro ?_ ?_) <;> (first | assumption | omega | (simp; done))))))
  refine AOp.call rfl (by simp only [go_sem]; rfl) (by simp [go_sem]) rfl (ACalls.mono (by simp only [go_sem]; exact t_Period m s hs _) ?_)
  rintro e st' ⟨rfl, rfl⟩
  (refine AOpsC_ok hK' _ _ _ ?_; (repeat simp (config := { maxSteps := 4000000 }) (disch := omega) only [go_sem, redN, Nat.reduceAdd, Int.reduceToNat, Int.reducePow]); (repeat' refine And.intro ?_ ?_); (try any_goals (first | (refine hK _ _ ?_; clear hK' hQ hK Q' Kn) | (intro hq9; refine ⟨hq9, ?_⟩; simp only [redB] at hq9; omega) | (intro hq9; refine ⟨hq9, fun hq8 => ?_⟩; rw [hq9, hq8]; rfl) | (simp; done) | omega | (simp only [redL]; omega) | (simp; omega) | (intros; (repeat' refine And.intro ?_ ?_) <;> (first | assumption | omega | (simp; done))))))
  refine AOp.alloc rfl (by simp only [go_sem]; rfl) fun b23 hb23 => ?_
  (refine AOpsC_ok hK' _ _ _ ?_; (repeat simp (config := { maxSteps := 4000000 }) (disch := omega) only [go_sem, redN, Nat.reduceAdd, Int.reduceToNat, Int.reducePow]); (repeat' refine And.intro ?_ ?_); (try any_goals (first | (refine hK _ _ ?_; clear hK' hQ hK Q' Kn) | (intro hq9; refine ⟨hq9, ?_⟩; simp only [redB] at hq9; omega) | (intro hq9; refine ⟨hq9, fun hq8 => ?_⟩; rw [hq9, hq8]; rfl) | (simp; done) | omega | (simp only [redL]; omega) | (simp; omega) | (intros; (repeat' refine And.intro ?_ ?_) <;> (first | assumption | omega | (simp; done))))))
  refine AOp.storeAll (cs := [.int .i64 (periodF s).1.1.1, .bool (periodF s).1.1.2.1, .bool (periodF s).1.1.2.2, .int .i64 (periodF s).1.2]) rfl (by simp only [go_sem] <;> rfl) (by simp [go_sem]) (St.set_same _ _ _) (by first | (simp only [go_sem]; done) | (simp [go_sem]; done) | (simp [go_sem]; omega)) (by simp [go_sem, isCell]) rfl rfl rfl ?_
  (refine AOpsC_ok hK' _ _ _ ?_; (repeat simp (config := { maxSteps := 4000000 }) (disch := omega) only [go_sem, redN, Nat.reduceAdd, Int.reduceToNat, Int.reducePow]); (repeat' refine And.intro ?_ ?_); (try any_goals (first | (refine hK _ _ ?_; clear hK' hQ hK Q' Kn) | (intro hq9; refine ⟨hq9, ?_⟩; simp only [redB] at hq9; omega) | (intro hq9; refine ⟨hq9, fun hq8 => ?_⟩; rw [hq9, hq8]; rfl) | (simp; done) | omega | (simp only [redL]; omega) | (simp; omega) | (intros; (repeat' refine And.intro ?_ ?_) <;> (first | assumption | omega | (simp; done))))))
  rw [St.set_set]
  refine AW.freeze 23 rfl (St.set_same _ _ _) ?_
  rw [St.del_set _ _ hb23]
  (repeat' (first | refine AW.seq ?_ | refine AW.scope ?_ | refine AW.label ?_ | refine AW.block ?_ | refine AW.skip ?_ | refine AW.exit ?_ | refine AW.ret ?_))
  (refine AW.regionC fun Q' Kn hQ hK hK' => ?_; (repeat simp (config := { maxSteps := 4000000 }) (disch := omega) only [go_sem, redN, Nat.reduceAdd, Int.reduceToNat, Int.reducePow]); (repeat' refine And.intro ?_ ?_); (try any_goals (first | (refine hK _ _ ?_; clear hK' hQ hK Q' Kn) | (intro hq9; refine ⟨hq9, ?_⟩; simp only [redB] at hq9; omega) | (intro hq9; refine ⟨hq9, fun hq8 => ?_⟩; rw [hq9, hq8]; rfl) | (simp; done) | omega | (simp only [redL]; omega) | (simp; omega) | (intros; (repeat' refine And.intro ?_ ?_) <;> (first | assumption | omega | (simp; done))))))
  refine AOp.call rfl (by simp only [go_sem]; rfl) (by simp [go_sem]) rfl (ACalls.mono (by simp only [go_sem]; exact r_Period (Gt m) s hs _) ?_)
  rintro e st' ⟨rfl, rfl⟩
  (refine AOpsC_ok hK' _ _ _ ?_; (repeat simp (config := { maxSteps := 4000000 }) (disch := omega) only [go_sem, redN, Nat.reduceAdd, Int.reduceToNat, Int.reducePow]); (repeat' refine And.intro ?_ ?_); (try any_goals (first | (refine hK _ _ ?_; clear hK' hQ hK Q' Kn) | (intro hq9; refine ⟨hq9, ?_⟩; simp only [redB] at hq9; omega) | (intro hq9; refine ⟨hq9, fun hq8 => ?_⟩; rw [hq9, hq8]; rfl) | (simp; done) | omega | (simp only [redL]; omega) | (simp; omega) | (intros; (repeat' refine And.intro ?_ ?_) <;> (first | assumption | omega | (simp; done))))))
  refine AOp.alloc rfl (by simp only [go_sem]; rfl) fun b25 hb25 => ?_
  (refine AOpsC_ok hK' _ _ _ ?_; (repeat simp (config := { maxSteps := 4000000 }) (disch := omega) only [go_sem, redN, Nat.reduceAdd, Int.reduceToNat, Int.reducePow]); (repeat' refine And.intro ?_ ?_); (try any_goals (first | (refine hK _ _ ?_; clear hK' hQ hK Q' Kn) | (intro hq9; refine ⟨hq9, ?_⟩; simp only [redB] at hq9; omega) | (intro hq9; refine ⟨hq9, fun hq8 => ?_⟩; rw [hq9, hq8]; rfl) | (simp; done) | omega | (simp only [redL]; omega) | (simp; omega) | (intros; (repeat' refine And.intro ?_ ?_) <;> (first | assumption | omega | (simp; done))))))
  refine AOp.storeAll (cs := [.int .i64 (periodF s).1.1.1, .bool (periodF s).1.1.2.1, .bool (periodF s).1.1.2.2, .int .i64 (periodF s).1.2]) rfl (by simp only [go_sem] <;> rfl) (by simp [go_sem]) (St.set_same _ _ _) (by first | (simp only [go_sem]; done) | (simp [go_sem]; done) | (simp [go_sem]; omega)) (by simp [go_sem, isCell]) rfl rfl rfl ?_
  (refine AOpsC_ok hK' _ _ _ ?_; (repeat simp (config := { maxSteps := 4000000 }) (disch := omega) only [go_sem, redN, Nat.reduceAdd, Int.reduceToNat, Int.reducePow]); (repeat' refine And.intro ?_ ?_); (try any_goals (first | (refine hK _ _ ?_; clear hK' hQ hK Q' Kn) | (intro hq9; refine ⟨hq9, ?_⟩; simp only [redB] at hq9; omega) | (intro hq9; refine ⟨hq9, fun hq8 => ?_⟩; rw [hq9, hq8]; rfl) | (simp; done) | omega | (simp only [redL]; omega) | (simp; omega) | (intros; (repeat' refine And.intro ?_ ?_) <;> (first | assumption | omega | (simp; done))))))
  rw [St.set_set]
  refine AW.freeze 25 rfl (St.set_same _ _ _) ?_
  rw [St.del_set _ _ hb25]
  generalize timeF s = ft at *
  generalize timesF s = fl at *
  generalize periodF s = fp at *
  (repeat' (first | refine AW.seq ?_ | refine AW.scope ?_ | refine AW.label ?_ | refine AW.block ?_ | refine AW.skip ?_ | refine AW.exit ?_ | refine AW.ret ?_))
  (refine AW.regionC fun Q' Kn hQ hK hK' => ?_; (repeat simp (config := { maxSteps := 4000000 }) (disch := omega) only [go_sem, redN, Nat.reduceAdd, Int.reduceToNat, Int.reducePow]); (repeat' refine And.intro ?_ ?_); (try any_goals (first | (refine hK _ _ ?_; clear hK' hQ hK Q' Kn) | (intro hq9; refine ⟨hq9, ?_⟩; simp only [redB] at hq9; omega) | (intro hq9; refine ⟨hq9, fun hq8 => ?_⟩; rw [hq9, hq8]; rfl) | (simp; done) | omega | (simp only [redL]; omega) | (simp; omega) | (intros; (repeat' refine And.intro ?_ ?_) <;> (first | assumption | omega | (simp; done))))))
  refine AOp.eqAgg rfl (by simp [go_sem]) (by simp only [go_sem] <;> rfl) (by simp only [go_sem] <;> rfl) rfl rfl guard_When (fun w => eq_when _ _ _ _ _ _ w) ?_
  (refine AOpsC_ok hK' _ _ _ ?_; (repeat simp (config := { maxSteps := 4000000 }) (disch := omega) only [go_sem, redN, Nat.reduceAdd, Int.reduceToNat, Int.reducePow]); (repeat' refine And.intro ?_ ?_); (try any_goals (first | (refine hK _ _ ?_; clear hK' hQ hK Q' Kn) | (intro hq9; refine ⟨hq9, ?_⟩; simp only [redB] at hq9; omega) | (intro hq9; refine ⟨hq9, fun hq8 => ?_⟩; rw [hq9, hq8]; rfl) | (simp; done) | omega | (simp only [redL]; omega) | (simp; omega) | (intros; (repeat' refine And.intro ?_ ?_) <;> (first | assumption | omega | (simp; done))))))
  refine AOps.guard_call (f := 38) (v := .bool true) rfl rfl rfl rfl rfl (fun _ => (by simp only [go_sem] <;> rfl)) (fun h => by first | (simp [go_sem]; done) | simpa [go_sem] using h) rfl (fun hg => by simp only [go_sem]; exact r_Whens (Gt m) _ hw _) ?_
  (refine AOpsC_ok hK' _ _ _ ?_; (repeat simp (config := { maxSteps := 4000000 }) (disch := omega) only [go_sem, redN, Nat.reduceAdd, Int.reduceToNat, Int.reducePow]); (repeat' refine And.intro ?_ ?_); (try any_goals (first | (refine hK _ _ ?_; clear hK' hQ hK Q' Kn) | (intro hq9; refine ⟨hq9, ?_⟩; simp only [redB] at hq9; omega) | (intro hq9; refine ⟨hq9, fun hq8 => ?_⟩; rw [hq9, hq8]; rfl) | (simp; done) | omega | (simp only [redL]; omega) | (simp; omega) | (intros; (repeat' refine And.intro ?_ ?_) <;> (first | assumption | omega | (simp; done))))))
  refine AOps.guard_eqAgg rfl rfl rfl rfl rfl (fun h => by first | (simp [go_sem]; done) | simpa [go_sem] using h) (fun _ => (by simp only [go_sem] <;> rfl)) (fun _ => (by simp only [go_sem] <;> rfl)) rfl rfl guard_Period (fun w => eq_period _ _ _ _ _ _ _ _ w) ?_
  (refine AOpsC_ok hK' _ _ _ ?_; (repeat simp (config := { maxSteps := 4000000 }) (disch := omega) only [go_sem, redN, Nat.reduceAdd, Int.reduceToNat, Int.reducePow]); (repeat' refine And.intro ?_ ?_); (try any_goals (first | (refine hK _ _ ?_; clear hK' hQ hK Q' Kn) | (intro hq9; refine ⟨hq9, ?_⟩; simp only [redB] at hq9; omega) | (intro hq9; refine ⟨hq9, fun hq8 => ?_⟩; rw [hq9, hq8]; rfl) | (simp; done) | omega | (simp only [redL]; omega) | (simp; omega) | (intros; (repeat' refine And.intro ?_ ?_) <;> (first | assumption | omega | (simp; done))))))
  refine AOps.guard_call (f := 39) (v := .bool true) rfl rfl rfl rfl rfl (fun _ => (by simp only [go_sem] <;> rfl)) (fun h => by first | (simp [go_sem]; done) | simpa [go_sem] using h) rfl (fun hg => by simp only [go_sem]; exact l_awake13 m _) ?_
  (refine AOpsC_ok hK' _ _ _ ?_; (repeat simp (config := { maxSteps := 4000000 }) (disch := omega) only [go_sem, redN, Nat.reduceAdd, Int.reduceToNat, Int.reducePow]); (repeat' refine And.intro ?_ ?_); (try any_goals (first | (refine hK _ _ ?_; clear hK' hQ hK Q' Kn) | (intro hq9; refine ⟨hq9, ?_⟩; simp only [redB] at hq9; omega) | (intro hq9; refine ⟨hq9, fun hq8 => ?_⟩; rw [hq9, hq8]; rfl) | (simp; done) | omega | (simp only [redL]; omega) | (simp; omega) | (intros; (repeat' refine And.intro ?_ ?_) <;> (first | assumption | omega | (simp; done))))))
  (repeat' (first | refine AW.seq ?_ | refine AW.scope ?_ | refine AW.label ?_ | refine AW.block ?_ | refine AW.skip ?_ | refine AW.exit ?_ | refine AW.ret ?_))
  (refine ⟨_, _, rfl, by simp, ?_⟩; simp only [aTup, AA.get, List.getD_cons_zero, List.getD_cons_succ, true_and])
end Go.Almanac
