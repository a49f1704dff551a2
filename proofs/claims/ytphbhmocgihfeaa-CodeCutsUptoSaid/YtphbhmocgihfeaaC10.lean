/- Numbers and texts as bytes: the document's writing; the law CodeWrites. -/
import Derived.Test.YtphbhmocgihfeaaC8
namespace Go.Almanac
open Go.RowKit Go.Proofs Go.Abs

set_option linter.unusedSimpArgs false
set_option linter.unusedVariables false
set_option linter.unusedSectionVars false
set_option maxRecDepth 10000

theorem fresh_of {st σ : St} (h : st.sub σ) : ∀ i, σ i = none → st i = none := by
  intro i hi
  cases hx : st i with
  | none => rfl
  | some B => rw [h i B hx] at hi; cases hi

/-- What the writing of a number holds at each round's head. -/
structure RefInv (n : Nat) (st : St) (x : Nat × List UInt8 × AV × St) : Prop where
  lt : x.1 < 2 ^ 64
  out : x.2.1 ++ num x.1 = num n
  sub : st.sub x.2.2.2
  own : OwnS x.2.2.2 1 x.2.2.1 (bytesE x.2.1) (fun i => st i = none)

attribute [local go_sem] tmod_128 tmod_2

theorem ref_Number (n : Nat) (hn : n < 2 ^ 64) (st : St) : ACalls Ev 8 [.int .u64 n] st (fun e st' => st' = st ∧ e = .ret (.str (num n))) := by
  refine ACalls.thaw (R' := fun e st' => st.sub st' ∧ e = .ret (.str (num n))) ?_ (fun x st1 h => ⟨1, st, h.1, rfl, by rw [h.2]; rfl⟩)
  refine ACalls.of_body Try.func8 rfl ?_
  rw [Try.ntmps8]
  simp only [List.length_cons, List.length_nil, Nat.reduceAdd, Nat.reduceSub, List.replicate_succ, List.replicate_zero, List.cons_append, List.nil_append]
  (repeat' (first | refine AW.seq ?_ | refine AW.scope ?_ | refine AW.label ?_ | refine AW.block ?_ | refine AW.skip ?_ | refine AW.exit ?_ | refine AW.ret ?_ | (refine AW.regionC fun Q' Kn hQ hK hK' => ?_; simp (disch := omega) only [go_sem, Nat.reduceAdd, w_i64, w_u64, w_u8, w_u32, w_i32]; (try simp (disch := omega) only [go_sem, Nat.reduceAdd, w_i64, w_u64, w_u8, w_u32, w_i32]); (repeat' refine And.intro ?_ ?_); (try any_goals (first | (refine hK _ _ ?_; clear hK' hQ hK Q' Kn) | (simp; done) | omega | (simp only [List.length_append, List.length_cons, List.length_nil]; omega)))) | (refine AW.cond (by simp (disch := omega) only [go_sem, Nat.reduceAdd, w_i64, w_u64, w_u8, w_u32, w_i32]; rfl) (fun hb => ?_) (fun hb => ?_) <;> (try simp only [Bool.or_eq_true, Bool.and_eq_true, Bool.or_eq_false_iff, Bool.and_eq_false_iff, decide_eq_true_eq, decide_eq_false_iff_not, beq_iff_eq, bne_iff_ne, Bool.not_eq_true', beq_eq_false_iff_ne, bne_eq_false_iff_eq, ne_eq, Bool.not_eq_false', Bool.true_eq_false, Bool.false_eq_true, Bool.false_or, Bool.true_or, Bool.false_and, Bool.true_and, false_or, or_false, true_and, and_true] at hb))))
  refine AW.loopF (fun x : Nat × List UInt8 × AV × St => [.int .u64 x.1, .junk, .junk, x.2.2.1, .junk, .junk, .junk, .junk, .junk, .junk, .junk, .junk, .junk, .junk, .junk, .junk, .junk, .junk, .junk, .junk, .junk]) (fun x => x.2.2.2) (RefInv n st) (fun x => x.1) (n, [], .nils, st) ?_ rfl ?_ ?_
  · (repeat (first | exact Weak.nil | refine Weak.junk _ ?_ | refine Weak.same _ ?_ | refine Weak.eqv (by (congr 1; omega)) ?_))
  · exact ⟨hn, rfl, St.sub_refl st, .inl ⟨rfl, rfl⟩⟩
  rintro ⟨m, done, v, σ⟩ ⟨h1, h2, hsub, h8⟩
  dsimp only at h1 h2 hsub h8 ⊢
  have hcv : ((m % 128 : Nat) : Int) + 128 = (((UInt8.ofNat (m % 128 + 128)).toNat : Nat) : Int) := by rw [UInt8.toNat_ofNat']; omega
  have hcw : m < 128 → (m : Int) = (((UInt8.ofNat m).toNat : Nat) : Int) := fun h => by rw [UInt8.toNat_ofNat']; omega
  have hlen := num_length 10 n (by omega) (by omega)
  have hl2 : done.length < 10 := by
    have := congrArg List.length h2
    have hp : 0 < (num m).length := by rw [num]; split <;> simp
    simp only [List.length_append] at this; omega
  have hfi : ∀ {i}, σ i = none → st i = none := fun {i} h => fresh_of hsub i h
  rcases h8 with ⟨rfl, h⟩ | ⟨ia0, g, rfl, q8, q9⟩
  · have hdone : done = [] := by cases done <;> simp_all [bytesE]
    (repeat' (first | refine AW.seq ?_ | refine AW.scope ?_ | refine AW.label ?_ | refine AW.block ?_ | refine AW.skip ?_ | refine AW.exit ?_ | refine AW.ret ?_ | (refine AW.regionC fun Q' Kn hQ hK hK' => ?_; simp (disch := omega) only [go_sem, Nat.reduceAdd, w_i64, w_u64, w_u8, w_u32, w_i32]; (try simp (disch := omega) only [go_sem, Nat.reduceAdd, w_i64, w_u64, w_u8, w_u32, w_i32]); (repeat' refine And.intro ?_ ?_); (try any_goals (first | (refine hK _ _ ?_; clear hK' hQ hK Q' Kn) | (simp; done) | omega | (simp only [List.length_append, List.length_cons, List.length_nil]; omega)))) | (refine AW.cond (by simp (disch := omega) only [go_sem, Nat.reduceAdd, w_i64, w_u64, w_u8, w_u32, w_i32]; rfl) (fun hb => ?_) (fun hb => ?_) <;> (try simp only [Bool.or_eq_true, Bool.and_eq_true, Bool.or_eq_false_iff, Bool.and_eq_false_iff, decide_eq_true_eq, decide_eq_false_iff_not, beq_iff_eq, bne_iff_ne, Bool.not_eq_true', beq_eq_false_iff_ne, bne_eq_false_iff_eq, ne_eq, Bool.not_eq_false', Bool.true_eq_false, Bool.false_eq_true, Bool.false_or, Bool.true_or, Bool.false_and, Bool.true_and, false_or, or_false, true_and, and_true] at hb))))
    · refine AOp.buildSlice (e := 5) (sz := 1) (es := bytesE [UInt8.ofNat (m % 128 + 128)]) rfl rfl rfl rfl (by simp [partsC, go_sem]) (by simp only [aParts, go_sem, bytesE, List.map]; rw [hcv]; rfl) (by simp [bytesE]) rfl (by decide) (by decide) fun it hit => ?_
      (refine AOpsC_ok hK' _ _ _ ?_; simp (disch := omega) only [go_sem, Nat.reduceAdd, w_i64, w_u64, w_u8, w_u32, w_i32]; (try simp (disch := omega) only [go_sem, Nat.reduceAdd, w_i64, w_u64, w_u8, w_u32, w_i32]); (repeat' refine And.intro ?_ ?_); (try any_goals (first | (refine hK _ _ ?_; clear hK' hQ hK Q' Kn) | (simp; done) | omega | (simp only [List.length_append, List.length_cons, List.length_nil]; omega))))
      refine AOp.appendO (ok := fun i => st i = none) (e := 5) (sz := 1) (by_ := 1) (es := bytesE done) (xs := bytesE [UInt8.ofNat (m % 128 + 128)]) rfl (by simp [go_sem]) rfl rfl rfl rfl (by decide) (by rfl) ?_ (by simp [go_sem, aElems, St.set, bytesE]) (by simp [go_sem, aSz]) (bytesE_one _) ?_ ?_ ?_ ?_ (by simp [bytesE])
      · exact .inl ⟨rfl, by rw [hdone]; rfl⟩
      · simp only [bytesE_length, List.length_cons, List.length_nil]; omega
      · simp only [bytesE_length, List.length_cons, List.length_nil, maxLen]; omega
      · exact fresh_of (St.sub_set hsub (hfi hit) _)
      intro v' ia B hia hv' hown
      rw [← bytesE_append] at hown
      have hsub' : st.sub ((St.set σ it (Blk.cells 0 1 (bytesE [UInt8.ofNat (m % 128 + 128)]))).set ia B) := St.sub_set (St.sub_set hsub (hfi hit) _) (by rcases hia with h | h; exact fresh_of (St.sub_set hsub (hfi hit) _) ia h; exact h) B
      rcases hown with ⟨_, h⟩ | ⟨i2, g2, rfl, q1, q2⟩
      · simp [bytesE] at h
      (refine AOpsC_ok hK' _ _ _ ?_; simp (disch := omega) only [go_sem, Nat.reduceAdd, w_i64, w_u64, w_u8, w_u32, w_i32]; (try simp (disch := omega) only [go_sem, Nat.reduceAdd, w_i64, w_u64, w_u8, w_u32, w_i32]); (repeat' refine And.intro ?_ ?_); (try any_goals (first | (refine hK _ _ ?_; clear hK' hQ hK Q' Kn) | (simp; done) | omega | (simp only [List.length_append, List.length_cons, List.length_nil]; omega))))
      (repeat' (first | refine AW.seq ?_ | refine AW.scope ?_ | refine AW.label ?_ | refine AW.block ?_ | refine AW.skip ?_ | refine AW.exit ?_ | refine AW.ret ?_ | (refine AW.regionC fun Q' Kn hQ hK hK' => ?_; simp (disch := omega) only [go_sem, Nat.reduceAdd, w_i64, w_u64, w_u8, w_u32, w_i32]; (try simp (disch := omega) only [go_sem, Nat.reduceAdd, w_i64, w_u64, w_u8, w_u32, w_i32]); (repeat' refine And.intro ?_ ?_); (try any_goals (first | (refine hK _ _ ?_; clear hK' hQ hK Q' Kn) | (simp; done) | omega | (simp only [List.length_append, List.length_cons, List.length_nil]; omega)))) | (refine AW.cond (by simp (disch := omega) only [go_sem, Nat.reduceAdd, w_i64, w_u64, w_u8, w_u32, w_i32]; rfl) (fun hb => ?_) (fun hb => ?_) <;> (try simp only [Bool.or_eq_true, Bool.and_eq_true, Bool.or_eq_false_iff, Bool.and_eq_false_iff, decide_eq_true_eq, decide_eq_false_iff_not, beq_iff_eq, bne_iff_ne, Bool.not_eq_true', beq_eq_false_iff_ne, bne_eq_false_iff_eq, ne_eq, Bool.not_eq_false', Bool.true_eq_false, Bool.false_eq_true, Bool.false_or, Bool.true_or, Bool.false_and, Bool.true_and, false_or, or_false, true_and, and_true] at hb))))
      refine ⟨(m / 128, done ++ [UInt8.ofNat (m % 128 + 128)], .arr i2 g2 1 0 (bytesE (done ++ [UInt8.ofNat (m % 128 + 128)])).length, _), ⟨by dsimp only; omega, ?_, hsub', .inr ⟨i2, g2, rfl, q1, q2⟩⟩, by dsimp only; omega, ?_, rfl, rfl⟩
      · dsimp only
        rw [← h2]
        conv => rhs; rw [num, dif_neg (by omega)]
        simp
      · dsimp only
        rw [shr7_u64]
        (repeat (first | exact Weak.nil | refine Weak.junk _ ?_ | refine Weak.same _ ?_ | refine Weak.eqv (by (congr 1; omega)) ?_))
    · refine AOp.buildSlice (e := 5) (sz := 1) (es := bytesE [UInt8.ofNat m]) rfl rfl rfl rfl (by simp [partsC, go_sem]) (by simp only [aParts, go_sem, bytesE, List.map]; rw [hcw (by omega)]; rfl) (by simp [bytesE]) rfl (by decide) (by decide) fun it hit => ?_
      (refine AOpsC_ok hK' _ _ _ ?_; simp (disch := omega) only [go_sem, Nat.reduceAdd, w_i64, w_u64, w_u8, w_u32, w_i32]; (try simp (disch := omega) only [go_sem, Nat.reduceAdd, w_i64, w_u64, w_u8, w_u32, w_i32]); (repeat' refine And.intro ?_ ?_); (try any_goals (first | (refine hK _ _ ?_; clear hK' hQ hK Q' Kn) | (simp; done) | omega | (simp only [List.length_append, List.length_cons, List.length_nil]; omega))))
      refine AOp.appendO (ok := fun i => st i = none) (e := 5) (sz := 1) (by_ := 1) (es := bytesE done) (xs := bytesE [UInt8.ofNat m]) rfl (by simp [go_sem]) rfl rfl rfl rfl (by decide) (by rfl) ?_ (by simp [go_sem, aElems, St.set, bytesE]) (by simp [go_sem, aSz]) (bytesE_one _) ?_ ?_ ?_ ?_ (by simp [bytesE])
      · exact .inl ⟨rfl, by rw [hdone]; rfl⟩
      · simp only [bytesE_length, List.length_cons, List.length_nil]; omega
      · simp only [bytesE_length, List.length_cons, List.length_nil, maxLen]; omega
      · exact fresh_of (St.sub_set hsub (hfi hit) _)
      intro v' ia B hia hv' hown
      rw [← bytesE_append] at hown
      have hsub' : st.sub ((St.set σ it (Blk.cells 0 1 (bytesE [UInt8.ofNat m]))).set ia B) := St.sub_set (St.sub_set hsub (hfi hit) _) (by rcases hia with h | h; exact fresh_of (St.sub_set hsub (hfi hit) _) ia h; exact h) B
      rcases hown with ⟨_, h⟩ | ⟨i2, g2, rfl, q1, q2⟩
      · simp [bytesE] at h
      (refine AOpsC_ok hK' _ _ _ ?_; simp (disch := omega) only [go_sem, Nat.reduceAdd, w_i64, w_u64, w_u8, w_u32, w_i32]; (try simp (disch := omega) only [go_sem, Nat.reduceAdd, w_i64, w_u64, w_u8, w_u32, w_i32]); (repeat' refine And.intro ?_ ?_); (try any_goals (first | (refine hK _ _ ?_; clear hK' hQ hK Q' Kn) | (simp; done) | omega | (simp only [List.length_append, List.length_cons, List.length_nil]; omega))))
      refine AOp.toStr (e := 5) (s := done ++ [UInt8.ofNat m]) (by rfl) ?_ (by rfl) (by rfl) (by rfl) (.inr ?_) ?_
      · simp [go_sem]
      · simp [go_sem, aElems, aSz, q1]
        exact List.take_of_length_le (by simp)
      (refine AOpsC_ok hK' _ _ _ ?_; simp (disch := omega) only [go_sem, Nat.reduceAdd, w_i64, w_u64, w_u8, w_u32, w_i32]; (try simp (disch := omega) only [go_sem, Nat.reduceAdd, w_i64, w_u64, w_u8, w_u32, w_i32]); (repeat' refine And.intro ?_ ?_); (try any_goals (first | (refine hK _ _ ?_; clear hK' hQ hK Q' Kn) | (simp; done) | omega | (simp only [List.length_append, List.length_cons, List.length_nil]; omega))))
      (repeat' (first | refine AW.seq ?_ | refine AW.scope ?_ | refine AW.label ?_ | refine AW.block ?_ | refine AW.skip ?_ | refine AW.exit ?_ | refine AW.ret ?_ | (refine AW.regionC fun Q' Kn hQ hK hK' => ?_; simp (disch := omega) only [go_sem, Nat.reduceAdd, w_i64, w_u64, w_u8, w_u32, w_i32]; (try simp (disch := omega) only [go_sem, Nat.reduceAdd, w_i64, w_u64, w_u8, w_u32, w_i32]); (repeat' refine And.intro ?_ ?_); (try any_goals (first | (refine hK _ _ ?_; clear hK' hQ hK Q' Kn) | (simp; done) | omega | (simp only [List.length_append, List.length_cons, List.length_nil]; omega)))) | (refine AW.cond (by simp (disch := omega) only [go_sem, Nat.reduceAdd, w_i64, w_u64, w_u8, w_u32, w_i32]; rfl) (fun hb => ?_) (fun hb => ?_) <;> (try simp only [Bool.or_eq_true, Bool.and_eq_true, Bool.or_eq_false_iff, Bool.and_eq_false_iff, decide_eq_true_eq, decide_eq_false_iff_not, beq_iff_eq, bne_iff_ne, Bool.not_eq_true', beq_eq_false_iff_ne, bne_eq_false_iff_eq, ne_eq, Bool.not_eq_false', Bool.true_eq_false, Bool.false_eq_true, Bool.false_or, Bool.true_or, Bool.false_and, Bool.true_and, false_or, or_false, true_and, and_true] at hb))))
      (refine ⟨_, _, rfl, by simp, ?_⟩; simp only [aTup, AA.get, List.getD_cons_zero, List.getD_cons_succ, true_and])
      refine ⟨hsub', ?_⟩
      rw [← h2, num, dif_pos (by omega)]
  · skip
    (repeat' (first | refine AW.seq ?_ | refine AW.scope ?_ | refine AW.label ?_ | refine AW.block ?_ | refine AW.skip ?_ | refine AW.exit ?_ | refine AW.ret ?_ | (refine AW.regionC fun Q' Kn hQ hK hK' => ?_; simp (disch := omega) only [go_sem, Nat.reduceAdd, w_i64, w_u64, w_u8, w_u32, w_i32]; (try simp (disch := omega) only [go_sem, Nat.reduceAdd, w_i64, w_u64, w_u8, w_u32, w_i32]); (repeat' refine And.intro ?_ ?_); (try any_goals (first | (refine hK _ _ ?_; clear hK' hQ hK Q' Kn) | (simp; done) | omega | (simp only [List.length_append, List.length_cons, List.length_nil]; omega)))) | (refine AW.cond (by simp (disch := omega) only [go_sem, Nat.reduceAdd, w_i64, w_u64, w_u8, w_u32, w_i32]; rfl) (fun hb => ?_) (fun hb => ?_) <;> (try simp only [Bool.or_eq_true, Bool.and_eq_true, Bool.or_eq_false_iff, Bool.and_eq_false_iff, decide_eq_true_eq, decide_eq_false_iff_not, beq_iff_eq, bne_iff_ne, Bool.not_eq_true', beq_eq_false_iff_ne, bne_eq_false_iff_eq, ne_eq, Bool.not_eq_false', Bool.true_eq_false, Bool.false_eq_true, Bool.false_or, Bool.true_or, Bool.false_and, Bool.true_and, false_or, or_false, true_and, and_true] at hb))))
    · refine AOp.buildSlice (e := 5) (sz := 1) (es := bytesE [UInt8.ofNat (m % 128 + 128)]) rfl rfl rfl rfl (by simp [partsC, go_sem]) (by simp only [aParts, go_sem, bytesE, List.map]; rw [hcv]; rfl) (by simp [bytesE]) rfl (by decide) (by decide) fun it hit => ?_
      (refine AOpsC_ok hK' _ _ _ ?_; simp (disch := omega) only [go_sem, Nat.reduceAdd, w_i64, w_u64, w_u8, w_u32, w_i32]; (try simp (disch := omega) only [go_sem, Nat.reduceAdd, w_i64, w_u64, w_u8, w_u32, w_i32]); (repeat' refine And.intro ?_ ?_); (try any_goals (first | (refine hK _ _ ?_; clear hK' hQ hK Q' Kn) | (simp; done) | omega | (simp only [List.length_append, List.length_cons, List.length_nil]; omega))))
      refine AOp.appendO (ok := fun i => st i = none) (e := 5) (sz := 1) (by_ := 1) (es := bytesE done) (xs := bytesE [UInt8.ofNat (m % 128 + 128)]) rfl (by simp [go_sem]) rfl rfl rfl rfl (by decide) (by rfl) ?_ (by simp [go_sem, aElems, St.set, bytesE]) (by simp [go_sem, aSz]) (bytesE_one _) ?_ ?_ ?_ ?_ (by simp [bytesE])
      · refine .inr ⟨ia0, g, rfl, ?_, q9⟩
        have : ia0 ≠ it := fun e => by subst e; rw [q8] at hit; cases hit
        simp [St.set, this, q8]
      · simp only [bytesE_length, List.length_cons, List.length_nil]; omega
      · simp only [bytesE_length, List.length_cons, List.length_nil, maxLen]; omega
      · exact fresh_of (St.sub_set hsub (hfi hit) _)
      intro v' ia B hia hv' hown
      rw [← bytesE_append] at hown
      have hsub' : st.sub ((St.set σ it (Blk.cells 0 1 (bytesE [UInt8.ofNat (m % 128 + 128)]))).set ia B) := St.sub_set (St.sub_set hsub (hfi hit) _) (by rcases hia with h | h; exact fresh_of (St.sub_set hsub (hfi hit) _) ia h; exact h) B
      rcases hown with ⟨_, h⟩ | ⟨i2, g2, rfl, q1, q2⟩
      · simp [bytesE] at h
      (refine AOpsC_ok hK' _ _ _ ?_; simp (disch := omega) only [go_sem, Nat.reduceAdd, w_i64, w_u64, w_u8, w_u32, w_i32]; (try simp (disch := omega) only [go_sem, Nat.reduceAdd, w_i64, w_u64, w_u8, w_u32, w_i32]); (repeat' refine And.intro ?_ ?_); (try any_goals (first | (refine hK _ _ ?_; clear hK' hQ hK Q' Kn) | (simp; done) | omega | (simp only [List.length_append, List.length_cons, List.length_nil]; omega))))
      (repeat' (first | refine AW.seq ?_ | refine AW.scope ?_ | refine AW.label ?_ | refine AW.block ?_ | refine AW.skip ?_ | refine AW.exit ?_ | refine AW.ret ?_ | (refine AW.regionC fun Q' Kn hQ hK hK' => ?_; simp (disch := omega) only [go_sem, Nat.reduceAdd, w_i64, w_u64, w_u8, w_u32, w_i32]; (try simp (disch := omega) only [go_sem, Nat.reduceAdd, w_i64, w_u64, w_u8, w_u32, w_i32]); (repeat' refine And.intro ?_ ?_); (try any_goals (first | (refine hK _ _ ?_; clear hK' hQ hK Q' Kn) | (simp; done) | omega | (simp only [List.length_append, List.length_cons, List.length_nil]; omega)))) | (refine AW.cond (by simp (disch := omega) only [go_sem, Nat.reduceAdd, w_i64, w_u64, w_u8, w_u32, w_i32]; rfl) (fun hb => ?_) (fun hb => ?_) <;> (try simp only [Bool.or_eq_true, Bool.and_eq_true, Bool.or_eq_false_iff, Bool.and_eq_false_iff, decide_eq_true_eq, decide_eq_false_iff_not, beq_iff_eq, bne_iff_ne, Bool.not_eq_true', beq_eq_false_iff_ne, bne_eq_false_iff_eq, ne_eq, Bool.not_eq_false', Bool.true_eq_false, Bool.false_eq_true, Bool.false_or, Bool.true_or, Bool.false_and, Bool.true_and, false_or, or_false, true_and, and_true] at hb))))
      refine ⟨(m / 128, done ++ [UInt8.ofNat (m % 128 + 128)], .arr i2 g2 1 0 (bytesE (done ++ [UInt8.ofNat (m % 128 + 128)])).length, _), ⟨by dsimp only; omega, ?_, hsub', .inr ⟨i2, g2, rfl, q1, q2⟩⟩, by dsimp only; omega, ?_, rfl, rfl⟩
      · dsimp only
        rw [← h2]
        conv => rhs; rw [num, dif_neg (by omega)]
        simp
      · dsimp only
        rw [shr7_u64]
        (repeat (first | exact Weak.nil | refine Weak.junk _ ?_ | refine Weak.same _ ?_ | refine Weak.eqv (by (congr 1; omega)) ?_))
    · refine AOp.buildSlice (e := 5) (sz := 1) (es := bytesE [UInt8.ofNat m]) rfl rfl rfl rfl (by simp [partsC, go_sem]) (by simp only [aParts, go_sem, bytesE, List.map]; rw [hcw (by omega)]; rfl) (by simp [bytesE]) rfl (by decide) (by decide) fun it hit => ?_
      (refine AOpsC_ok hK' _ _ _ ?_; simp (disch := omega) only [go_sem, Nat.reduceAdd, w_i64, w_u64, w_u8, w_u32, w_i32]; (try simp (disch := omega) only [go_sem, Nat.reduceAdd, w_i64, w_u64, w_u8, w_u32, w_i32]); (repeat' refine And.intro ?_ ?_); (try any_goals (first | (refine hK _ _ ?_; clear hK' hQ hK Q' Kn) | (simp; done) | omega | (simp only [List.length_append, List.length_cons, List.length_nil]; omega))))
      refine AOp.appendO (ok := fun i => st i = none) (e := 5) (sz := 1) (by_ := 1) (es := bytesE done) (xs := bytesE [UInt8.ofNat m]) rfl (by simp [go_sem]) rfl rfl rfl rfl (by decide) (by rfl) ?_ (by simp [go_sem, aElems, St.set, bytesE]) (by simp [go_sem, aSz]) (bytesE_one _) ?_ ?_ ?_ ?_ (by simp [bytesE])
      · refine .inr ⟨ia0, g, rfl, ?_, q9⟩
        have : ia0 ≠ it := fun e => by subst e; rw [q8] at hit; cases hit
        simp [St.set, this, q8]
      · simp only [bytesE_length, List.length_cons, List.length_nil]; omega
      · simp only [bytesE_length, List.length_cons, List.length_nil, maxLen]; omega
      · exact fresh_of (St.sub_set hsub (hfi hit) _)
      intro v' ia B hia hv' hown
      rw [← bytesE_append] at hown
      have hsub' : st.sub ((St.set σ it (Blk.cells 0 1 (bytesE [UInt8.ofNat m]))).set ia B) := St.sub_set (St.sub_set hsub (hfi hit) _) (by rcases hia with h | h; exact fresh_of (St.sub_set hsub (hfi hit) _) ia h; exact h) B
      rcases hown with ⟨_, h⟩ | ⟨i2, g2, rfl, q1, q2⟩
      · simp [bytesE] at h
      (refine AOpsC_ok hK' _ _ _ ?_; simp (disch := omega) only [go_sem, Nat.reduceAdd, w_i64, w_u64, w_u8, w_u32, w_i32]; (try simp (disch := omega) only [go_sem, Nat.reduceAdd, w_i64, w_u64, w_u8, w_u32, w_i32]); (repeat' refine And.intro ?_ ?_); (try any_goals (first | (refine hK _ _ ?_; clear hK' hQ hK Q' Kn) | (simp; done) | omega | (simp only [List.length_append, List.length_cons, List.length_nil]; omega))))
      refine AOp.toStr (e := 5) (s := done ++ [UInt8.ofNat m]) (by rfl) ?_ (by rfl) (by rfl) (by rfl) (.inr ?_) ?_
      · simp [go_sem]
      · simp [go_sem, aElems, aSz, q1]
        exact List.take_of_length_le (by simp)
      (refine AOpsC_ok hK' _ _ _ ?_; simp (disch := omega) only [go_sem, Nat.reduceAdd, w_i64, w_u64, w_u8, w_u32, w_i32]; (try simp (disch := omega) only [go_sem, Nat.reduceAdd, w_i64, w_u64, w_u8, w_u32, w_i32]); (repeat' refine And.intro ?_ ?_); (try any_goals (first | (refine hK _ _ ?_; clear hK' hQ hK Q' Kn) | (simp; done) | omega | (simp only [List.length_append, List.length_cons, List.length_nil]; omega))))
      (repeat' (first | refine AW.seq ?_ | refine AW.scope ?_ | refine AW.label ?_ | refine AW.block ?_ | refine AW.skip ?_ | refine AW.exit ?_ | refine AW.ret ?_ | (refine AW.regionC fun Q' Kn hQ hK hK' => ?_; simp (disch := omega) only [go_sem, Nat.reduceAdd, w_i64, w_u64, w_u8, w_u32, w_i32]; (try simp (disch := omega) only [go_sem, Nat.reduceAdd, w_i64, w_u64, w_u8, w_u32, w_i32]); (repeat' refine And.intro ?_ ?_); (try any_goals (first | (refine hK _ _ ?_; clear hK' hQ hK Q' Kn) | (simp; done) | omega | (simp only [List.length_append, List.length_cons, List.length_nil]; omega)))) | (refine AW.cond (by simp (disch := omega) only [go_sem, Nat.reduceAdd, w_i64, w_u64, w_u8, w_u32, w_i32]; rfl) (fun hb => ?_) (fun hb => ?_) <;> (try simp only [Bool.or_eq_true, Bool.and_eq_true, Bool.or_eq_false_iff, Bool.and_eq_false_iff, decide_eq_true_eq, decide_eq_false_iff_not, beq_iff_eq, bne_iff_ne, Bool.not_eq_true', beq_eq_false_iff_ne, bne_eq_false_iff_eq, ne_eq, Bool.not_eq_false', Bool.true_eq_false, Bool.false_eq_true, Bool.false_or, Bool.true_or, Bool.false_and, Bool.true_and, false_or, or_false, true_and, and_true] at hb))))
      (refine ⟨_, _, rfl, by simp, ?_⟩; simp only [aTup, AA.get, List.getD_cons_zero, List.getD_cons_succ, true_and])
      refine ⟨hsub', ?_⟩
      rw [← h2, num, dif_pos (by omega)]

theorem shl1 : (2 : Int) ^ min (Int.toNat 1) 64 = 2 := rfl
theorem ref_Signed (x : Int) (h0 : -9223372036854775808 ≤ x) (h1 : x ≤ 9223372036854775807) (st : St) : ACalls Ev 10 [.int .i64 x] st (fun e st' => st' = st ∧ e = .ret (.str (num (uns x)))) := by
  have hu := uns_lt h0 h1
  refine ACalls.of_body Try.func10 rfl ?_
  rw [Try.ntmps10]
  simp only [List.length_cons, List.length_nil, Nat.reduceAdd, Nat.reduceSub, List.replicate_succ, List.replicate_zero, List.cons_append, List.nil_append]
  (repeat' (first | refine AW.seq ?_ | refine AW.scope ?_ | refine AW.label ?_ | refine AW.block ?_ | refine AW.skip ?_ | refine AW.exit ?_ | refine AW.ret ?_ | (refine AW.regionC fun Q' Kn hQ hK hK' => ?_; simp (disch := omega) only [go_sem, Nat.reduceAdd, w_i64, w_u64, w_u8, w_u32, w_i32]; (try simp (disch := omega) only [go_sem, Nat.reduceAdd, w_i64, w_u64, w_u8, w_u32, w_i32]); (repeat' refine And.intro ?_ ?_); (try any_goals (first | (refine hK _ _ ?_; clear hK' hQ hK Q' Kn) | (simp; done) | omega | (simp only [List.length_append, List.length_cons, List.length_nil]; omega)))) | (refine AW.cond (by simp (disch := omega) only [go_sem, Nat.reduceAdd, w_i64, w_u64, w_u8, w_u32, w_i32]; rfl) (fun hb => ?_) (fun hb => ?_) <;> (try simp only [Bool.or_eq_true, Bool.and_eq_true, Bool.or_eq_false_iff, Bool.and_eq_false_iff, decide_eq_true_eq, decide_eq_false_iff_not, beq_iff_eq, bne_iff_ne, Bool.not_eq_true', beq_eq_false_iff_ne, bne_eq_false_iff_eq, ne_eq, Bool.not_eq_false', Bool.true_eq_false, Bool.false_eq_true, Bool.false_or, Bool.true_or, Bool.false_and, Bool.true_and, false_or, or_false, true_and, and_true] at hb))))
  · rw [shl1, w_u64 (n := (0 - (x + 1)) * 2) (by omega) (by omega), w_u64 (by omega) (by omega), show (0 - (x + 1)) * 2 + 1 = ((uns x : Nat) : Int) from by unfold uns; split <;> omega]
    refine AOp.call rfl (by simp only [go_sem]; rfl) (by simp [go_sem]) rfl (ACalls.mono (by simp only [go_sem]; exact ref_Number (uns x) hu st) ?_)
    rintro e st' ⟨rfl, rfl⟩
    (refine AOpsC_ok hK' _ _ _ ?_; simp (disch := omega) only [go_sem, Nat.reduceAdd, w_i64, w_u64, w_u8, w_u32, w_i32]; (try simp (disch := omega) only [go_sem, Nat.reduceAdd, w_i64, w_u64, w_u8, w_u32, w_i32]); (repeat' refine And.intro ?_ ?_); (try any_goals (first | (refine hK _ _ ?_; clear hK' hQ hK Q' Kn) | (simp; done) | omega | (simp only [List.length_append, List.length_cons, List.length_nil]; omega))))
    (repeat' (first | refine AW.seq ?_ | refine AW.scope ?_ | refine AW.label ?_ | refine AW.block ?_ | refine AW.skip ?_ | refine AW.exit ?_ | refine AW.ret ?_ | (refine AW.regionC fun Q' Kn hQ hK hK' => ?_; simp (disch := omega) only [go_sem, Nat.reduceAdd, w_i64, w_u64, w_u8, w_u32, w_i32]; (try simp (disch := omega) only [go_sem, Nat.reduceAdd, w_i64, w_u64, w_u8, w_u32, w_i32]); (repeat' refine And.intro ?_ ?_); (try any_goals (first | (refine hK _ _ ?_; clear hK' hQ hK Q' Kn) | (simp; done) | omega | (simp only [List.length_append, List.length_cons, List.length_nil]; omega)))) | (refine AW.cond (by simp (disch := omega) only [go_sem, Nat.reduceAdd, w_i64, w_u64, w_u8, w_u32, w_i32]; rfl) (fun hb => ?_) (fun hb => ?_) <;> (try simp only [Bool.or_eq_true, Bool.and_eq_true, Bool.or_eq_false_iff, Bool.and_eq_false_iff, decide_eq_true_eq, decide_eq_false_iff_not, beq_iff_eq, bne_iff_ne, Bool.not_eq_true', beq_eq_false_iff_ne, bne_eq_false_iff_eq, ne_eq, Bool.not_eq_false', Bool.true_eq_false, Bool.false_eq_true, Bool.false_or, Bool.true_or, Bool.false_and, Bool.true_and, false_or, or_false, true_and, and_true] at hb))))
    (refine ⟨_, _, rfl, by simp, ?_⟩; simp only [aTup, AA.get, List.getD_cons_zero, List.getD_cons_succ, true_and])
  · rw [shl1, w_u64 (by omega) (by omega), show x * 2 = ((uns x : Nat) : Int) from by unfold uns; split <;> omega]
    refine AOp.call rfl (by simp only [go_sem]; rfl) (by simp [go_sem]) rfl (ACalls.mono (by simp only [go_sem]; exact ref_Number (uns x) hu st) ?_)
    rintro e st' ⟨rfl, rfl⟩
    (refine AOpsC_ok hK' _ _ _ ?_; simp (disch := omega) only [go_sem, Nat.reduceAdd, w_i64, w_u64, w_u8, w_u32, w_i32]; (try simp (disch := omega) only [go_sem, Nat.reduceAdd, w_i64, w_u64, w_u8, w_u32, w_i32]); (repeat' refine And.intro ?_ ?_); (try any_goals (first | (refine hK _ _ ?_; clear hK' hQ hK Q' Kn) | (simp; done) | omega | (simp only [List.length_append, List.length_cons, List.length_nil]; omega))))
    (repeat' (first | refine AW.seq ?_ | refine AW.scope ?_ | refine AW.label ?_ | refine AW.block ?_ | refine AW.skip ?_ | refine AW.exit ?_ | refine AW.ret ?_ | (refine AW.regionC fun Q' Kn hQ hK hK' => ?_; simp (disch := omega) only [go_sem, Nat.reduceAdd, w_i64, w_u64, w_u8, w_u32, w_i32]; (try simp (disch := omega) only [go_sem, Nat.reduceAdd, w_i64, w_u64, w_u8, w_u32, w_i32]); (repeat' refine And.intro ?_ ?_); (try any_goals (first | (refine hK _ _ ?_; clear hK' hQ hK Q' Kn) | (simp; done) | omega | (simp only [List.length_append, List.length_cons, List.length_nil]; omega)))) | (refine AW.cond (by simp (disch := omega) only [go_sem, Nat.reduceAdd, w_i64, w_u64, w_u8, w_u32, w_i32]; rfl) (fun hb => ?_) (fun hb => ?_) <;> (try simp only [Bool.or_eq_true, Bool.and_eq_true, Bool.or_eq_false_iff, Bool.and_eq_false_iff, decide_eq_true_eq, decide_eq_false_iff_not, beq_iff_eq, bne_iff_ne, Bool.not_eq_true', beq_eq_false_iff_ne, bne_eq_false_iff_eq, ne_eq, Bool.not_eq_false', Bool.true_eq_false, Bool.false_eq_true, Bool.false_or, Bool.true_or, Bool.false_and, Bool.true_and, false_or, or_false, true_and, and_true] at hb))))
    (refine ⟨_, _, rfl, by simp, ?_⟩; simp only [aTup, AA.get, List.getD_cons_zero, List.getD_cons_succ, true_and])

theorem ref_Text (s : List UInt8) (hs : s.length ≤ 9223372036854775000) (st : St) : ACalls Ev 12 [.str s] st (fun e st' => st' = st ∧ e = .ret (.str (num s.length ++ s))) := by
  have hl := num_length 10 s.length (by omega) (by omega)
  refine ACalls.of_body Try.func12 rfl ?_
  rw [Try.ntmps12]
  simp only [List.length_cons, List.length_nil, Nat.reduceAdd, Nat.reduceSub, List.replicate_succ, List.replicate_zero, List.cons_append, List.nil_append]
  (repeat' (first | refine AW.seq ?_ | refine AW.scope ?_ | refine AW.label ?_ | refine AW.block ?_ | refine AW.skip ?_ | refine AW.exit ?_ | refine AW.ret ?_ | (refine AW.regionC fun Q' Kn hQ hK hK' => ?_; simp (disch := omega) only [go_sem, Nat.reduceAdd, w_i64, w_u64, w_u8, w_u32, w_i32]; (try simp (disch := omega) only [go_sem, Nat.reduceAdd, w_i64, w_u64, w_u8, w_u32, w_i32]); (repeat' refine And.intro ?_ ?_); (try any_goals (first | (refine hK _ _ ?_; clear hK' hQ hK Q' Kn) | (simp; done) | omega | (simp only [List.length_append, List.length_cons, List.length_nil]; omega)))) | (refine AW.cond (by simp (disch := omega) only [go_sem, Nat.reduceAdd, w_i64, w_u64, w_u8, w_u32, w_i32]; rfl) (fun hb => ?_) (fun hb => ?_) <;> (try simp only [Bool.or_eq_true, Bool.and_eq_true, Bool.or_eq_false_iff, Bool.and_eq_false_iff, decide_eq_true_eq, decide_eq_false_iff_not, beq_iff_eq, bne_iff_ne, Bool.not_eq_true', beq_eq_false_iff_ne, bne_eq_false_iff_eq, ne_eq, Bool.not_eq_false', Bool.true_eq_false, Bool.false_eq_true, Bool.false_or, Bool.true_or, Bool.false_and, Bool.true_and, false_or, or_false, true_and, and_true] at hb))))
  refine AOp.call rfl (by simp only [go_sem]; rfl) (by simp [go_sem]) rfl (ACalls.mono (by simp only [go_sem]; exact ref_Number s.length (by omega) st) ?_)
  rintro e st' ⟨rfl, rfl⟩
  (refine AOpsC_ok hK' _ _ _ ?_; simp (disch := omega) only [go_sem, Nat.reduceAdd, w_i64, w_u64, w_u8, w_u32, w_i32]; (try simp (disch := omega) only [go_sem, Nat.reduceAdd, w_i64, w_u64, w_u8, w_u32, w_i32]); (repeat' refine And.intro ?_ ?_); (try any_goals (first | (refine hK _ _ ?_; clear hK' hQ hK Q' Kn) | (simp; done) | omega | (simp only [List.length_append, List.length_cons, List.length_nil]; omega))))
  (repeat' (first | refine AW.seq ?_ | refine AW.scope ?_ | refine AW.label ?_ | refine AW.block ?_ | refine AW.skip ?_ | refine AW.exit ?_ | refine AW.ret ?_ | (refine AW.regionC fun Q' Kn hQ hK hK' => ?_; simp (disch := omega) only [go_sem, Nat.reduceAdd, w_i64, w_u64, w_u8, w_u32, w_i32]; (try simp (disch := omega) only [go_sem, Nat.reduceAdd, w_i64, w_u64, w_u8, w_u32, w_i32]); (repeat' refine And.intro ?_ ?_); (try any_goals (first | (refine hK _ _ ?_; clear hK' hQ hK Q' Kn) | (simp; done) | omega | (simp only [List.length_append, List.length_cons, List.length_nil]; omega)))) | (refine AW.cond (by simp (disch := omega) only [go_sem, Nat.reduceAdd, w_i64, w_u64, w_u8, w_u32, w_i32]; rfl) (fun hb => ?_) (fun hb => ?_) <;> (try simp only [Bool.or_eq_true, Bool.and_eq_true, Bool.or_eq_false_iff, Bool.and_eq_false_iff, decide_eq_true_eq, decide_eq_false_iff_not, beq_iff_eq, bne_iff_ne, Bool.not_eq_true', beq_eq_false_iff_ne, bne_eq_false_iff_eq, ne_eq, Bool.not_eq_false', Bool.true_eq_false, Bool.false_eq_true, Bool.false_or, Bool.true_or, Bool.false_and, Bool.true_and, false_or, or_false, true_and, and_true] at hb))))
  (refine ⟨_, _, rfl, by simp, ?_⟩; simp only [aTup, AA.get, List.getD_cons_zero, List.getD_cons_succ, true_and])

theorem c1_odd {c : Nat} (h : c < 2 ^ 32) (ho : c % 2 = 1) : ibits .xor .u32 ((c : Int).fdiv (2 ^ min (Int.toNat 1) 32)) 3988292384 = ((c1 c : Nat) : Int) := by
  have := c1_bits h
  rw [and1_u32 h, ho] at this
  exact this
theorem c1_even {c : Nat} (h : c < 2 ^ 32) (ho : c % 2 ≠ 1) : (c : Int).fdiv (2 ^ min (Int.toNat 1) 32) = ((c1 c : Nat) : Int) := by
  rw [c1, show c % 2 = 0 from by omega, show (2 : Int) ^ min (Int.toNat 1) 32 = 2 from rfl, Int.fdiv_eq_ediv_of_nonneg _ (by omega)]
  simp

theorem ref_Crc (s : List UInt8) (hs : s.length ≤ 4611686018427387904) (st : St) : ACalls Ev 14 [.str s] st (fun e st' => st' = st ∧ e = .ret (.int .u32 (crc s))) := by
  refine ACalls.of_body Try.func14 rfl ?_
  rw [Try.ntmps14]
  simp only [List.length_cons, List.length_nil, Nat.reduceAdd, Nat.reduceSub, List.replicate_succ, List.replicate_zero, List.cons_append, List.nil_append]
  (repeat' (first | refine AW.seq ?_ | refine AW.scope ?_ | refine AW.label ?_ | refine AW.block ?_ | refine AW.skip ?_ | refine AW.exit ?_ | refine AW.ret ?_ | (refine AW.regionC fun Q' Kn hQ hK hK' => ?_; simp (disch := omega) only [go_sem, Nat.reduceAdd, w_i64, w_u64, w_u8, w_u32, w_i32]; (try simp (disch := omega) only [go_sem, Nat.reduceAdd, w_i64, w_u64, w_u8, w_u32, w_i32]); (repeat' refine And.intro ?_ ?_); (try any_goals (first | (refine hK _ _ ?_; clear hK' hQ hK Q' Kn) | (simp; done) | omega | (simp only [List.length_append, List.length_cons, List.length_nil]; omega)))) | (refine AW.cond (by simp (disch := omega) only [go_sem, Nat.reduceAdd, w_i64, w_u64, w_u8, w_u32, w_i32]; rfl) (fun hb => ?_) (fun hb => ?_) <;> (try simp only [Bool.or_eq_true, Bool.and_eq_true, Bool.or_eq_false_iff, Bool.and_eq_false_iff, decide_eq_true_eq, decide_eq_false_iff_not, beq_iff_eq, bne_iff_ne, Bool.not_eq_true', beq_eq_false_iff_ne, bne_eq_false_iff_eq, ne_eq, Bool.not_eq_false', Bool.true_eq_false, Bool.false_eq_true, Bool.false_or, Bool.true_or, Bool.false_and, Bool.true_and, false_or, or_false, true_and, and_true] at hb))))
  refine AW.loopF (fun x : Nat × Nat => [.str s, .junk, .junk, .int .u32 x.2, .int .i64 x.1, .junk, .junk, .junk, .junk, .junk, .junk, .junk, .junk, .junk, .junk, .junk, .junk, .junk, .junk, .junk, .junk, .junk, .junk, .junk, .junk, .junk, .junk, .junk, .junk, .junk, .junk, .junk]) (fun _ => st)
    (fun x => x.1 ≤ s.length ∧ x.2 < 2 ^ 32 ∧ crcL (s.drop x.1) x.2 = crcL s 4294967295) (fun x => s.length - x.1) (0, 4294967295) ?_ rfl ?_ ?_
  · (repeat (first | exact Weak.nil | refine Weak.junk _ ?_ | refine Weak.same _ ?_ | refine Weak.eqv (by (congr 1; omega)) ?_))
  · exact ⟨by simp, by simp, by simp⟩
  rintro ⟨i, c⟩ ⟨h1, h2, h3⟩
  dsimp only at h1 h2 h3 ⊢
  have hb8 : (s.getD ((i : Int)).toNat 0).toNat < 256 := UInt8.toNat_lt _
  (repeat' (first | refine AW.seq ?_ | refine AW.scope ?_ | refine AW.label ?_ | refine AW.block ?_ | refine AW.skip ?_ | refine AW.exit ?_ | refine AW.ret ?_ | (refine AW.regionC fun Q' Kn hQ hK hK' => ?_; simp (disch := omega) only [go_sem, Nat.reduceAdd, w_i64, w_u64, w_u8, w_u32, w_i32]; (try simp (disch := omega) only [go_sem, Nat.reduceAdd, w_i64, w_u64, w_u8, w_u32, w_i32]); (repeat' refine And.intro ?_ ?_); (try any_goals (first | (refine hK _ _ ?_; clear hK' hQ hK Q' Kn) | (simp; done) | omega | (simp only [List.length_append, List.length_cons, List.length_nil]; omega)))) | (refine AW.cond (by simp (disch := omega) only [go_sem, Nat.reduceAdd, w_i64, w_u64, w_u8, w_u32, w_i32]; rfl) (fun hb => ?_) (fun hb => ?_) <;> (try simp only [Bool.or_eq_true, Bool.and_eq_true, Bool.or_eq_false_iff, Bool.and_eq_false_iff, decide_eq_true_eq, decide_eq_false_iff_not, beq_iff_eq, bne_iff_ne, Bool.not_eq_true', beq_eq_false_iff_ne, bne_eq_false_iff_eq, ne_eq, Bool.not_eq_false', Bool.true_eq_false, Bool.false_eq_true, Bool.false_or, Bool.true_or, Bool.false_and, Bool.true_and, false_or, or_false, true_and, and_true] at hb))))
  · have hx := cx_bits h2 (s.getD i 0)
    rw [Int.toNat_natCast, hx.1]
    refine AW.loopF (fun x : Nat × Nat => [.str s, .junk, .junk, .int .u32 x.2, .int .i64 i, .int .i64 x.1, .junk, .junk, .junk, .junk, .junk, .junk, .junk, .junk, .junk, .junk, .junk, .junk, .junk, .junk, .junk, .junk, .junk, .junk, .junk, .junk, .junk, .junk, .junk, .junk, .junk, .junk]) (fun _ => st)
      (fun x => x.1 ≤ 8 ∧ x.2 < 2 ^ 32 ∧ cN (8 - x.1) x.2 = cN 8 (c ^^^ (s.getD i 0).toNat)) (fun x => 8 - x.1) (0, c ^^^ (s.getD i 0).toNat) ?_ rfl ?_ ?_
    · (repeat (first | exact Weak.nil | refine Weak.junk _ ?_ | refine Weak.same _ ?_ | refine Weak.eqv (by (congr 1; omega)) ?_))
    · exact ⟨by simp, hx.2, by simp⟩
    rintro ⟨k, e⟩ ⟨g1, g2, g3⟩
    dsimp only at g1 g2 g3 ⊢
    have step : k < 8 → cN (8 - (k + 1)) (c1 e) = cN 8 (c ^^^ (s.getD i 0).toNat) := fun hk => by
      rw [← g3]
      obtain ⟨j, hj⟩ : ∃ j, 8 - k = j + 1 := ⟨7 - k, by omega⟩
      rw [hj, show 8 - (k + 1) = j from by omega, cN]
    (repeat' (first | refine AW.seq ?_ | refine AW.scope ?_ | refine AW.label ?_ | refine AW.block ?_ | refine AW.skip ?_ | refine AW.exit ?_ | refine AW.ret ?_ | (refine AW.regionC fun Q' Kn hQ hK hK' => ?_; simp (disch := omega) only [go_sem, Nat.reduceAdd, w_i64, w_u64, w_u8, w_u32, w_i32]; (try simp (disch := omega) only [go_sem, Nat.reduceAdd, w_i64, w_u64, w_u8, w_u32, w_i32]); (repeat' refine And.intro ?_ ?_); (try any_goals (first | (refine hK _ _ ?_; clear hK' hQ hK Q' Kn) | (simp; done) | omega | (simp only [List.length_append, List.length_cons, List.length_nil]; omega)))) | (refine AW.cond (by simp (disch := omega) only [go_sem, Nat.reduceAdd, w_i64, w_u64, w_u8, w_u32, w_i32]; rfl) (fun hb => ?_) (fun hb => ?_) <;> (try simp only [Bool.or_eq_true, Bool.and_eq_true, Bool.or_eq_false_iff, Bool.and_eq_false_iff, decide_eq_true_eq, decide_eq_false_iff_not, beq_iff_eq, bne_iff_ne, Bool.not_eq_true', beq_eq_false_iff_ne, bne_eq_false_iff_eq, ne_eq, Bool.not_eq_false', Bool.true_eq_false, Bool.false_eq_true, Bool.false_or, Bool.true_or, Bool.false_and, Bool.true_and, false_or, or_false, true_and, and_true] at hb))))
    · rw [c1_odd g2 (by omega)]
      refine ⟨(k + 1, c1 e), ⟨by omega, c1_lt g2, step (by omega)⟩, by dsimp only; omega, ?_, rfl, rfl⟩
      dsimp only
      (repeat (first | exact Weak.nil | refine Weak.junk _ ?_ | refine Weak.same _ ?_ | refine Weak.eqv (by (congr 1; omega)) ?_))
    · rw [c1_even g2 (by omega)]
      refine ⟨(k + 1, c1 e), ⟨by omega, c1_lt g2, step (by omega)⟩, by dsimp only; omega, ?_, rfl, rfl⟩
      dsimp only
      (repeat (first | exact Weak.nil | refine Weak.junk _ ?_ | refine Weak.same _ ?_ | refine Weak.eqv (by (congr 1; omega)) ?_))
    · have hk : k = 8 := by omega
      subst hk
      refine ⟨(i + 1, e), ⟨by omega, g2, ?_⟩, by dsimp only; omega, ?_, rfl, rfl⟩
      · dsimp only
        rw [← h3, drop_cons (s := s) (n := i) (by omega), crcL, ← g3]
        rfl
      · dsimp only
        (repeat (first | exact Weak.nil | refine Weak.junk _ ?_ | refine Weak.same _ ?_ | refine Weak.eqv (by (congr 1; omega)) ?_))
  · have hi : i = s.length := by omega
    subst hi
    (refine ⟨_, _, rfl, by simp, ?_⟩; simp only [aTup, AA.get, List.getD_cons_zero, List.getD_cons_succ, true_and])
    have := (ibits_u32 (a := 4294967295) (b := c) (by omega) h2).2.2
    rw [List.drop_length, crcL] at h3
    rw [crc, ← h3, ← this]
    rfl

theorem law_CodeWrites (n : Nat) (hn : n < 2 ^ 64) (x : Int) (h0 : -9223372036854775808 ≤ x) (h1 : x ≤ 9223372036854775807) (s : List UInt8) (hs : s.length ≤ 1048576) (st : St) :
    ACalls Ev 3 [.int .u64 n, .int .i64 x, .str s] st (fun e st' => e = .ret (.bool true)) := by
  refine ACalls.of_body Try.func3 rfl ?_
  rw [Try.ntmps3]
  simp only [List.length_cons, List.length_nil, Nat.reduceAdd, Nat.reduceSub, List.replicate_succ, List.replicate_zero, List.cons_append, List.nil_append]
  (repeat' (first | refine AW.seq ?_ | refine AW.scope ?_ | refine AW.label ?_ | refine AW.block ?_ | refine AW.skip ?_ | refine AW.exit ?_ | refine AW.ret ?_ | (refine AW.regionC fun Q' Kn hQ hK hK' => ?_; simp (disch := omega) only [go_sem, Nat.reduceAdd, w_i64, w_u64, w_u8, w_u32, w_i32]; (try simp (disch := omega) only [go_sem, Nat.reduceAdd, w_i64, w_u64, w_u8, w_u32, w_i32]); (repeat' refine And.intro ?_ ?_); (try any_goals (first | (refine hK _ _ ?_; clear hK' hQ hK Q' Kn) | (simp; done) | omega | (simp only [List.length_append, List.length_cons, List.length_nil]; omega)))) | (refine AW.cond (by simp (disch := omega) only [go_sem, Nat.reduceAdd, w_i64, w_u64, w_u8, w_u32, w_i32]; rfl) (fun hb => ?_) (fun hb => ?_) <;> (try simp only [Bool.or_eq_true, Bool.and_eq_true, Bool.or_eq_false_iff, Bool.and_eq_false_iff, decide_eq_true_eq, decide_eq_false_iff_not, beq_iff_eq, bne_iff_ne, Bool.not_eq_true', beq_eq_false_iff_ne, bne_eq_false_iff_eq, ne_eq, Bool.not_eq_false', Bool.true_eq_false, Bool.false_eq_true, Bool.false_or, Bool.true_or, Bool.false_and, Bool.true_and, false_or, or_false, true_and, and_true] at hb))))
  refine AOp.call rfl (by simp only [go_sem]; rfl) (by simp [go_sem]) rfl (ACalls.mono (by simp only [go_sem]; exact code_Number n hn st) ?_)
  rintro e st' ⟨rfl, rfl⟩
  (refine AOpsC_ok hK' _ _ _ ?_; simp (disch := omega) only [go_sem, Nat.reduceAdd, w_i64, w_u64, w_u8, w_u32, w_i32]; (try simp (disch := omega) only [go_sem, Nat.reduceAdd, w_i64, w_u64, w_u8, w_u32, w_i32]); (repeat' refine And.intro ?_ ?_); (try any_goals (first | (refine hK _ _ ?_; clear hK' hQ hK Q' Kn) | (simp; done) | omega | (simp only [List.length_append, List.length_cons, List.length_nil]; omega))))
  refine AOp.call rfl (by simp only [go_sem]; rfl) (by simp [go_sem]) rfl (ACalls.mono (by simp only [go_sem]; exact ref_Number n hn st') ?_)
  rintro e st' ⟨rfl, rfl⟩
  (refine AOpsC_ok hK' _ _ _ ?_; simp (disch := omega) only [go_sem, Nat.reduceAdd, w_i64, w_u64, w_u8, w_u32, w_i32]; (try simp (disch := omega) only [go_sem, Nat.reduceAdd, w_i64, w_u64, w_u8, w_u32, w_i32]); (repeat' refine And.intro ?_ ?_); (try any_goals (first | (refine hK _ _ ?_; clear hK' hQ hK Q' Kn) | (simp; done) | omega | (simp only [List.length_append, List.length_cons, List.length_nil]; omega))))
  refine AOp.call rfl (by simp only [go_sem]; rfl) (by simp [go_sem]) rfl (ACalls.mono (by simp only [go_sem]; exact code_Signed x h0 h1 st') ?_)
  rintro e st' ⟨rfl, rfl⟩
  (refine AOpsC_ok hK' _ _ _ ?_; simp (disch := omega) only [go_sem, Nat.reduceAdd, w_i64, w_u64, w_u8, w_u32, w_i32]; (try simp (disch := omega) only [go_sem, Nat.reduceAdd, w_i64, w_u64, w_u8, w_u32, w_i32]); (repeat' refine And.intro ?_ ?_); (try any_goals (first | (refine hK _ _ ?_; clear hK' hQ hK Q' Kn) | (simp; done) | omega | (simp only [List.length_append, List.length_cons, List.length_nil]; omega))))
  refine AOp.call rfl (by simp only [go_sem]; rfl) (by simp [go_sem]) rfl (ACalls.mono (by simp only [go_sem]; exact ref_Signed x h0 h1 st') ?_)
  rintro e st' ⟨rfl, rfl⟩
  (refine AOpsC_ok hK' _ _ _ ?_; simp (disch := omega) only [go_sem, Nat.reduceAdd, w_i64, w_u64, w_u8, w_u32, w_i32]; (try simp (disch := omega) only [go_sem, Nat.reduceAdd, w_i64, w_u64, w_u8, w_u32, w_i32]); (repeat' refine And.intro ?_ ?_); (try any_goals (first | (refine hK _ _ ?_; clear hK' hQ hK Q' Kn) | (simp; done) | omega | (simp only [List.length_append, List.length_cons, List.length_nil]; omega))))
  refine AOp.call rfl (by simp only [go_sem]; rfl) (by simp [go_sem]) rfl (ACalls.mono (by simp only [go_sem]; exact code_Text s (by omega) st') ?_)
  rintro e st' ⟨rfl, rfl⟩
  (refine AOpsC_ok hK' _ _ _ ?_; simp (disch := omega) only [go_sem, Nat.reduceAdd, w_i64, w_u64, w_u8, w_u32, w_i32]; (try simp (disch := omega) only [go_sem, Nat.reduceAdd, w_i64, w_u64, w_u8, w_u32, w_i32]); (repeat' refine And.intro ?_ ?_); (try any_goals (first | (refine hK _ _ ?_; clear hK' hQ hK Q' Kn) | (simp; done) | omega | (simp only [List.length_append, List.length_cons, List.length_nil]; omega))))
  refine AOp.call rfl (by simp only [go_sem]; rfl) (by simp [go_sem]) rfl (ACalls.mono (by simp only [go_sem]; exact ref_Text s (by omega) st') ?_)
  rintro e st' ⟨rfl, rfl⟩
  (refine AOpsC_ok hK' _ _ _ ?_; simp (disch := omega) only [go_sem, Nat.reduceAdd, w_i64, w_u64, w_u8, w_u32, w_i32]; (try simp (disch := omega) only [go_sem, Nat.reduceAdd, w_i64, w_u64, w_u8, w_u32, w_i32]); (repeat' refine And.intro ?_ ?_); (try any_goals (first | (refine hK _ _ ?_; clear hK' hQ hK Q' Kn) | (simp; done) | omega | (simp only [List.length_append, List.length_cons, List.length_nil]; omega))))
  refine AOp.call rfl (by simp only [go_sem]; rfl) (by simp [go_sem]) rfl (ACalls.mono (by simp only [go_sem]; exact code_Crc s (by omega) st') ?_)
  rintro e st' ⟨rfl, rfl⟩
  (refine AOpsC_ok hK' _ _ _ ?_; simp (disch := omega) only [go_sem, Nat.reduceAdd, w_i64, w_u64, w_u8, w_u32, w_i32]; (try simp (disch := omega) only [go_sem, Nat.reduceAdd, w_i64, w_u64, w_u8, w_u32, w_i32]); (repeat' refine And.intro ?_ ?_); (try any_goals (first | (refine hK _ _ ?_; clear hK' hQ hK Q' Kn) | (simp; done) | omega | (simp only [List.length_append, List.length_cons, List.length_nil]; omega))))
  refine AOp.call rfl (by simp only [go_sem]; rfl) (by simp [go_sem]) rfl (ACalls.mono (by simp only [go_sem]; exact ref_Crc s (by omega) st') ?_)
  rintro e st' ⟨rfl, rfl⟩
  (refine AOpsC_ok hK' _ _ _ ?_; simp (disch := omega) only [go_sem, Nat.reduceAdd, w_i64, w_u64, w_u8, w_u32, w_i32]; (try simp (disch := omega) only [go_sem, Nat.reduceAdd, w_i64, w_u64, w_u8, w_u32, w_i32]); (repeat' refine And.intro ?_ ?_); (try any_goals (first | (refine hK _ _ ?_; clear hK' hQ hK Q' Kn) | (simp; done) | omega | (simp only [List.length_append, List.length_cons, List.length_nil]; omega))))
  refine AOp.call rfl (by simp only [go_sem]; rfl) (by simp [go_sem]) rfl (ACalls.mono (by simp only [go_sem]; exact law_awake st') ?_)
  rintro e st' ⟨rfl, rfl⟩
  (refine AOpsC_ok hK' _ _ _ ?_; simp (disch := omega) only [go_sem, Nat.reduceAdd, w_i64, w_u64, w_u8, w_u32, w_i32]; (try simp (disch := omega) only [go_sem, Nat.reduceAdd, w_i64, w_u64, w_u8, w_u32, w_i32]); (repeat' refine And.intro ?_ ?_); (try any_goals (first | (refine hK _ _ ?_; clear hK' hQ hK Q' Kn) | (simp; done) | omega | (simp only [List.length_append, List.length_cons, List.length_nil]; omega))))
  (repeat' (first | refine AW.seq ?_ | refine AW.scope ?_ | refine AW.label ?_ | refine AW.block ?_ | refine AW.skip ?_ | refine AW.exit ?_ | refine AW.ret ?_ | (refine AW.regionC fun Q' Kn hQ hK hK' => ?_; simp (disch := omega) only [go_sem, Nat.reduceAdd, w_i64, w_u64, w_u8, w_u32, w_i32]; (try simp (disch := omega) only [go_sem, Nat.reduceAdd, w_i64, w_u64, w_u8, w_u32, w_i32]); (repeat' refine And.intro ?_ ?_); (try any_goals (first | (refine hK _ _ ?_; clear hK' hQ hK Q' Kn) | (simp; done) | omega | (simp only [List.length_append, List.length_cons, List.length_nil]; omega)))) | (refine AW.cond (by simp (disch := omega) only [go_sem, Nat.reduceAdd, w_i64, w_u64, w_u8, w_u32, w_i32]; rfl) (fun hb => ?_) (fun hb => ?_) <;> (try simp only [Bool.or_eq_true, Bool.and_eq_true, Bool.or_eq_false_iff, Bool.and_eq_false_iff, decide_eq_true_eq, decide_eq_false_iff_not, beq_iff_eq, bne_iff_ne, Bool.not_eq_true', beq_eq_false_iff_ne, bne_eq_false_iff_eq, ne_eq, Bool.not_eq_false', Bool.true_eq_false, Bool.false_eq_true, Bool.false_or, Bool.true_or, Bool.false_and, Bool.true_and, false_or, or_false, true_and, and_true] at hb))))
  (refine ⟨_, _, rfl, by simp, ?_⟩; simp only [aTup, AA.get, List.getD_cons_zero, List.getD_cons_succ, true_and])
end Go.Almanac
