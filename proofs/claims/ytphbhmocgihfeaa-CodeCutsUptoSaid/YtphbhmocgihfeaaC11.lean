/- Numbers and texts as bytes: the law CodeCuts. -/
import Derived.Test.YtphbhmocgihfeaaC10
import Derived.Test.YtphbhmocgihfeaaA21
namespace Go.Almanac
open Go.RowKit Go.Proofs Go.Abs

set_option linter.unusedSimpArgs false
set_option linter.unusedVariables false
set_option linter.unusedSectionVars false
set_option maxRecDepth 10000

theorem num_pos (n : Nat) : 0 < (num n).length := by rw [num]; split <;> simp

theorem rdn_cut : ∀ (m k acc j : Nat), k ≤ 9 → m * 2 ^ (7 * k) < 2 ^ 64 → j < (num m).length → rdn ((num m).take j) k acc = (0, 0, 11) := by
  intro m
  induction m using Nat.strongRecOn with
  | _ m ih =>
    intro k acc j hk hm hj
    have h9 : k = 9 → m ≤ 1 := fun e => by subst e; omega
    rw [num] at hj ⊢
    split at hj
    · rename_i h
      have : j = 0 := by simpa using hj
      subst this
      rw [List.take_zero, rdn]
    · rename_i h
      rw [dif_neg h]
      cases j with
      | zero => rw [List.take_zero, rdn]
      | succ j =>
        have e : (UInt8.ofNat (m % 128 + 128)).toNat = m % 128 + 128 := by rw [UInt8.toNat_ofNat']; omega
        have hp : 2 ^ (7 * (k + 1)) = 128 * 2 ^ (7 * k) := by rw [Nat.mul_add, Nat.pow_add]; omega
        have hq : m / 128 * (128 * 2 ^ (7 * k)) ≤ m * 2 ^ (7 * k) := by
          rw [← Nat.mul_assoc]; exact Nat.mul_le_mul_right _ (by omega)
        simp only [List.take_succ_cons, rdn, e]
        rw [if_neg (by omega), if_pos (by omega)]
        exact ih (m / 128) (by omega) (k + 1) _ j (by omega) (by rw [hp]; omega) (by simpa using hj)

theorem readText_cut (s : List UInt8) (hs : s.length < 2 ^ 64) {j : Nat} (hj : j < (num s.length ++ s).length) : readText ((num s.length ++ s).take j) 0 = ([], 0, 11) := by
  by_cases h : j < (num s.length).length
  · have e : (num s.length ++ s).take j = (num s.length).take j := by rw [List.take_append_of_le_length (by omega)]
    have hr := readNumber_in (s := (num s.length).take j) (j := 0) (by simp) (r := (0, 0, 11)) (by rw [List.drop_zero]; exact rdn_cut _ 0 0 j (by omega) (by simpa using hs) h)
    rw [e, readText]
    rw [show ((0 : Nat) : Int) = 0 from rfl] at hr
    rw [hr, if_pos (by simp)]
    simp
  · have e : (num s.length ++ s).take j = [] ++ (num s.length ++ s.take (j - (num s.length).length)) := by
      rw [List.take_append, List.take_of_length_le (by omega), List.nil_append]
    have hr := readNumber_back [] (s.take (j - (num s.length).length)) hs
    rw [show (([] : List UInt8).length : Int) = 0 from rfl] at hr
    rw [e, readText, hr, if_neg (by simp), if_pos ?_]
    simp only [List.length_append, List.length_take, List.length_nil] at hj ⊢
    omega

theorem rdn_made : ∀ (cs : List UInt8) (k acc N e : Nat), rdn cs k acc = (N, e, 0) → ∃ m, N = acc + m * 2 ^ (7 * k) ∧ num m = cs.take (e - k) ∧ (0 < k → 0 < m) ∧ k < e ∧ e - k ≤ cs.length
  | [], k, acc, N, e, h => by simp [rdn] at h
  | c :: cs, k, acc, N, e, h => by
    have hb8 : c.toNat < 256 := UInt8.toNat_lt _
    unfold rdn at h
    split at h
    · simp at h
    · split at h
      · obtain ⟨m, h1, h2, h3, h4, h5⟩ := rdn_made cs (k + 1) _ N e h
        have hp : 2 ^ (7 * (k + 1)) = 128 * 2 ^ (7 * k) := by rw [Nat.mul_add, Nat.pow_add]; omega
        have hm : 0 < m := h3 (by omega)
        refine ⟨c.toNat % 128 + m * 128, ?_, ?_, fun _ => by omega, by omega, by simp only [List.length_cons]; omega⟩
        · rw [h1, hp, Nat.add_mul, Nat.mul_assoc]; omega
        · rw [num, dif_neg (by omega), show (c.toNat % 128 + m * 128) % 128 + 128 = c.toNat from by omega, show (c.toNat % 128 + m * 128) / 128 = m from by omega, h2, show e - k = (e - (k + 1)) + 1 from by omega, List.take_succ_cons]
          simp
      · split at h
        · simp at h
        · rename_i h1 h2 h3
          simp only [Prod.mk.injEq, and_true] at h
          obtain ⟨rfl, rfl⟩ := h
          refine ⟨c.toNat, by rw [show c.toNat % 128 = c.toNat from by omega], ?_, fun _ => by omega, by omega, by simp⟩
          rw [num, dif_pos (by omega), show k + 1 - k = 1 from by omega]
          simp

theorem readNumber_made (q : List UInt8) (h : (readNumber q 0).2.2 = 0) : num (readNumber q 0).1 = q.take (readNumber q 0).2.1.toNat := by
  have hr := readNumber_in (s := q) (j := 0) (by simp) rfl
  rw [show ((0 : Nat) : Int) = 0 from rfl, List.drop_zero] at hr
  rw [hr] at h ⊢
  split at h
  · rename_i h0
    rw [if_pos h0]
    obtain ⟨m, h1, h2, _, _, _⟩ := rdn_made q 0 0 (rdn q 0 0).1 (rdn q 0 0).2.1 (Prod.ext rfl (Prod.ext rfl h0))
    dsimp only
    rw [h1, show 0 + m * 2 ^ (7 * 0) = m from by simp, h2]
    congr 1
    omega
  · contradiction

theorem law_CodeCuts (s : List UInt8) (k : Int) (q : List UInt8) (hs : s.length ≤ 1048576) (hq : q.length ≤ 1048576) (st : St) :
    ACalls Ev 4 [.str s, .int .i64 k, .str q] st (fun e st' => e = .ret (.bool true)) := by
  have l1 := num_length 10 s.length (by omega) (by omega)
  have hlen : (num s.length ++ s).length ≤ 1048590 := by simp only [List.length_append]; omega
  have hpos : 0 < (num s.length ++ s).length := by have := num_pos s.length; simp only [List.length_append]; omega
  have hcut := fun j (hj : j < (num s.length ++ s).length) => readText_cut s (by omega) hj
  have hE := readNumber_end q 0
  have hmade := readNumber_made q
  refine ACalls.of_body Try.func4 rfl ?_
  rw [Try.ntmps4]
  simp only [List.length_cons, List.length_nil, Nat.reduceAdd, Nat.reduceSub, List.replicate_succ, List.replicate_zero, List.cons_append, List.nil_append]
  (repeat' (first | refine AW.seq ?_ | refine AW.scope ?_ | refine AW.label ?_ | refine AW.block ?_ | refine AW.skip ?_ | refine AW.exit ?_ | refine AW.ret ?_ | (refine AW.regionC fun Q' Kn hQ hK hK' => ?_; simp (disch := omega) only [go_sem, Nat.reduceAdd, w_i64, w_u64, w_u8, w_u32, w_i32]; (try simp (disch := omega) only [go_sem, Nat.reduceAdd, w_i64, w_u64, w_u8, w_u32, w_i32]); (repeat' refine And.intro ?_ ?_); (try any_goals (first | (refine hK _ _ ?_; clear hK' hQ hK Q' Kn) | (simp; done) | omega | (simp only [List.length_append, List.length_cons, List.length_nil]; omega)))) | (refine AW.cond (by simp (disch := omega) only [go_sem, Nat.reduceAdd, w_i64, w_u64, w_u8, w_u32, w_i32]; rfl) (fun hb => ?_) (fun hb => ?_) <;> (try simp only [Bool.or_eq_true, Bool.and_eq_true, Bool.or_eq_false_iff, Bool.and_eq_false_iff, decide_eq_true_eq, decide_eq_false_iff_not, beq_iff_eq, bne_iff_ne, Bool.not_eq_true', beq_eq_false_iff_ne, bne_eq_false_iff_eq, ne_eq, Bool.not_eq_false', Bool.true_eq_false, Bool.false_eq_true, Bool.false_or, Bool.true_or, Bool.false_and, Bool.true_and, false_or, or_false, true_and, and_true] at hb))))
  refine AOp.call rfl (by simp only [go_sem]; rfl) (by simp [go_sem]) rfl (ACalls.mono (by simp only [go_sem]; exact code_Text s (by omega) st) ?_)
  rintro e st' ⟨rfl, rfl⟩
  generalize num s.length ++ s = b at *
  obtain ⟨j, hj, hjl⟩ : ∃ j : Nat, IntKind.i64.wrap ((IntKind.u64.wrap k).tmod b.length) = j ∧ j < b.length := by
    obtain ⟨K, hK⟩ : ∃ K : Nat, IntKind.u64.wrap k = K := ⟨(IntKind.u64.wrap k).toNat, by
      have : 0 ≤ IntKind.u64.wrap k := by simp only [IntKind.wrap, IntKind.signed, IntKind.bits]; simp; omega
      omega⟩
    have hlt : K % b.length < b.length := Nat.mod_lt _ hpos
    refine ⟨K % b.length, ?_, hlt⟩
    rw [hK, ← Int.ofNat_tmod, w_i64 (by omega) (by omega)]
  (refine AOpsC_ok hK' _ _ _ ?_; simp (disch := omega) only [go_sem, Nat.reduceAdd, w_i64, w_u64, w_u8, w_u32, w_i32]; (try simp (disch := omega) only [go_sem, Nat.reduceAdd, w_i64, w_u64, w_u8, w_u32, w_i32]); (repeat' refine And.intro ?_ ?_); (try any_goals (first | (refine hK _ _ ?_; clear hK' hQ hK Q' Kn) | (simp; done) | omega | (simp only [List.length_append, List.length_cons, List.length_nil]; omega))))
  (repeat' (first | refine AW.seq ?_ | refine AW.scope ?_ | refine AW.label ?_ | refine AW.block ?_ | refine AW.skip ?_ | refine AW.exit ?_ | refine AW.ret ?_ | (refine AW.regionC fun Q' Kn hQ hK hK' => ?_; simp (disch := omega) only [go_sem, Nat.reduceAdd, w_i64, w_u64, w_u8, w_u32, w_i32]; (try simp (disch := omega) only [go_sem, Nat.reduceAdd, w_i64, w_u64, w_u8, w_u32, w_i32]); (repeat' refine And.intro ?_ ?_); (try any_goals (first | (refine hK _ _ ?_; clear hK' hQ hK Q' Kn) | (simp; done) | omega | (simp only [List.length_append, List.length_cons, List.length_nil]; omega)))) | (refine AW.cond (by simp (disch := omega) only [go_sem, Nat.reduceAdd, w_i64, w_u64, w_u8, w_u32, w_i32]; rfl) (fun hb => ?_) (fun hb => ?_) <;> (try simp only [Bool.or_eq_true, Bool.and_eq_true, Bool.or_eq_false_iff, Bool.and_eq_false_iff, decide_eq_true_eq, decide_eq_false_iff_not, beq_iff_eq, bne_iff_ne, Bool.not_eq_true', beq_eq_false_iff_ne, bne_eq_false_iff_eq, ne_eq, Bool.not_eq_false', Bool.true_eq_false, Bool.false_eq_true, Bool.false_or, Bool.true_or, Bool.false_and, Bool.true_and, false_or, or_false, true_and, and_true] at hb))))
  · exfalso
    have h0 : (b.length : Int) = 0 := by simpa using hb
    omega
  rw [hj]
  simp only [Int.toNat_natCast, Int.toNat_zero, Nat.sub_zero, List.drop_zero]
  refine AOp.call rfl (by simp only [go_sem]; rfl) (by simp [go_sem]) rfl (ACalls.mono (by simp only [go_sem]; exact code_ReadText (b.take j) 0 (by rw [List.length_take]; omega) st') ?_)
  rintro e st' ⟨rfl, rfl⟩
  rw [hcut j hjl]
  (refine AOpsC_ok hK' _ _ _ ?_; simp (disch := omega) only [go_sem, Nat.reduceAdd, w_i64, w_u64, w_u8, w_u32, w_i32]; (try simp (disch := omega) only [go_sem, Nat.reduceAdd, w_i64, w_u64, w_u8, w_u32, w_i32]); (repeat' refine And.intro ?_ ?_); (try any_goals (first | (refine hK _ _ ?_; clear hK' hQ hK Q' Kn) | (simp; done) | omega | (simp only [List.length_append, List.length_cons, List.length_nil]; omega))))
  (repeat' (first | refine AW.seq ?_ | refine AW.scope ?_ | refine AW.label ?_ | refine AW.block ?_ | refine AW.skip ?_ | refine AW.exit ?_ | refine AW.ret ?_ | (refine AW.regionC fun Q' Kn hQ hK hK' => ?_; simp (disch := omega) only [go_sem, Nat.reduceAdd, w_i64, w_u64, w_u8, w_u32, w_i32]; (try simp (disch := omega) only [go_sem, Nat.reduceAdd, w_i64, w_u64, w_u8, w_u32, w_i32]); (repeat' refine And.intro ?_ ?_); (try any_goals (first | (refine hK _ _ ?_; clear hK' hQ hK Q' Kn) | (simp; done) | omega | (simp only [List.length_append, List.length_cons, List.length_nil]; omega)))) | (refine AW.cond (by simp (disch := omega) only [go_sem, Nat.reduceAdd, w_i64, w_u64, w_u8, w_u32, w_i32]; rfl) (fun hb => ?_) (fun hb => ?_) <;> (try simp only [Bool.or_eq_true, Bool.and_eq_true, Bool.or_eq_false_iff, Bool.and_eq_false_iff, decide_eq_true_eq, decide_eq_false_iff_not, beq_iff_eq, bne_iff_ne, Bool.not_eq_true', beq_eq_false_iff_ne, bne_eq_false_iff_eq, ne_eq, Bool.not_eq_false', Bool.true_eq_false, Bool.false_eq_true, Bool.false_or, Bool.true_or, Bool.false_and, Bool.true_and, false_or, or_false, true_and, and_true] at hb))))
  · exfalso
    simp at hb
  refine AOp.call rfl (by simp only [go_sem]; rfl) (by simp [go_sem]) rfl (ACalls.mono (by simp only [go_sem]; exact code_ReadNumber q 0 (by omega) st') ?_)
  rintro e st' ⟨rfl, rfl⟩
  generalize readNumber q 0 = rr at *
  obtain ⟨n, en, e⟩ := rr
  dsimp only at hE hmade ⊢
  (refine AOpsC_ok hK' _ _ _ ?_; simp (disch := omega) only [go_sem, Nat.reduceAdd, w_i64, w_u64, w_u8, w_u32, w_i32]; (try simp (disch := omega) only [go_sem, Nat.reduceAdd, w_i64, w_u64, w_u8, w_u32, w_i32]); (repeat' refine And.intro ?_ ?_); (try any_goals (first | (refine hK _ _ ?_; clear hK' hQ hK Q' Kn) | (simp; done) | omega | (simp only [List.length_append, List.length_cons, List.length_nil]; omega))))
  (repeat' (first | refine AW.seq ?_ | refine AW.scope ?_ | refine AW.label ?_ | refine AW.block ?_ | refine AW.skip ?_ | refine AW.exit ?_ | refine AW.ret ?_ | (refine AW.regionC fun Q' Kn hQ hK hK' => ?_; simp (disch := omega) only [go_sem, Nat.reduceAdd, w_i64, w_u64, w_u8, w_u32, w_i32]; (try simp (disch := omega) only [go_sem, Nat.reduceAdd, w_i64, w_u64, w_u8, w_u32, w_i32]); (repeat' refine And.intro ?_ ?_); (try any_goals (first | (refine hK _ _ ?_; clear hK' hQ hK Q' Kn) | (simp; done) | omega | (simp only [List.length_append, List.length_cons, List.length_nil]; omega)))) | (refine AW.cond (by simp (disch := omega) only [go_sem, Nat.reduceAdd, w_i64, w_u64, w_u8, w_u32, w_i32]; rfl) (fun hb => ?_) (fun hb => ?_) <;> (try simp only [Bool.or_eq_true, Bool.and_eq_true, Bool.or_eq_false_iff, Bool.and_eq_false_iff, decide_eq_true_eq, decide_eq_false_iff_not, beq_iff_eq, bne_iff_ne, Bool.not_eq_true', beq_eq_false_iff_ne, bne_eq_false_iff_eq, ne_eq, Bool.not_eq_false', Bool.true_eq_false, Bool.false_eq_true, Bool.false_or, Bool.true_or, Bool.false_and, Bool.true_and, false_or, or_false, true_and, and_true] at hb))))
  refine AW.drawn (List.range 20) (by decide +kernel) fun Q' Kn hQ hK hK' => ?_
  refine FxC_ok _ _ _ ?_
  clear hQ
  simp (disch := omega) only [go_sem, Nat.reduceAdd, w_i64, w_u64]
  refine ⟨_, Fixed.guard_call (f := 7) (v := .str (num n)) rfl rfl rfl rfl rfl (fun _ => by simp only [go_sem]; rfl) (fun h => by simpa [go_sem] using h) rfl (fun _ st => by simp only [go_sem]; exact code_Number n (by omega) st), ?_⟩
  refine FxC_ok _ _ _ ?_
  simp (disch := omega) only [go_sem, Nat.reduceAdd, w_i64, w_u64]
  repeat' refine And.intro ?_ ?_
  all_goals (try (first | (simp; done) | omega | (intro h; simp at h ⊢; omega)))
  refine ⟨_, Fixed.guard_call (f := 15) (v := .bool true) rfl rfl rfl rfl rfl (fun _ => by simp only [go_sem]; rfl) (fun _ => by simp [go_sem]) rfl (fun _ st => by simp only [go_sem]; exact law_awake st), ?_⟩
  refine FxC_ok _ _ _ ?_
  simp (disch := omega) only [go_sem, Nat.reduceAdd, w_i64, w_u64]
  repeat' refine And.intro ?_ ?_
  all_goals (try (first | (simp; done) | omega | (intro h; simp at h ⊢; omega)))
  refine hK _ _ ?_
  (repeat' (first | refine AW.seq ?_ | refine AW.scope ?_ | refine AW.label ?_ | refine AW.block ?_ | refine AW.skip ?_ | refine AW.exit ?_ | refine AW.ret ?_ | (refine AW.regionC fun Q' Kn hQ hK hK' => ?_; simp (disch := omega) only [go_sem, Nat.reduceAdd, w_i64, w_u64, w_u8, w_u32, w_i32]; (try simp (disch := omega) only [go_sem, Nat.reduceAdd, w_i64, w_u64, w_u8, w_u32, w_i32]); (repeat' refine And.intro ?_ ?_); (try any_goals (first | (refine hK _ _ ?_; clear hK' hQ hK Q' Kn) | (simp; done) | omega | (simp only [List.length_append, List.length_cons, List.length_nil]; omega)))) | (refine AW.cond (by simp (disch := omega) only [go_sem, Nat.reduceAdd, w_i64, w_u64, w_u8, w_u32, w_i32]; rfl) (fun hb => ?_) (fun hb => ?_) <;> (try simp only [Bool.or_eq_true, Bool.and_eq_true, Bool.or_eq_false_iff, Bool.and_eq_false_iff, decide_eq_true_eq, decide_eq_false_iff_not, beq_iff_eq, bne_iff_ne, Bool.not_eq_true', beq_eq_false_iff_ne, bne_eq_false_iff_eq, ne_eq, Bool.not_eq_false', Bool.true_eq_false, Bool.false_eq_true, Bool.false_or, Bool.true_or, Bool.false_and, Bool.true_and, false_or, or_false, true_and, and_true] at hb))))
  (refine ⟨_, _, rfl, by simp, ?_⟩; simp only [aTup, AA.get, List.getD_cons_zero, List.getD_cons_succ, true_and])
  by_cases he : e = 0
  · simp [he, hE]
    exact hmade he
  · simp [he]
end Go.Almanac
