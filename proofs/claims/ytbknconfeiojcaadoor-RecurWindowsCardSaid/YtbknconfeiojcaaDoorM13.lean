/- Recurrence: the law of windows, walked through. -/
import Derived.Test.YtbknconfeiojcaaDoorM11
import Derived.Test.YtbknconfeiojcaaDoorM12
import Derived.Test.YtbknconfeiojcaaDoorM4
/- Recurrence: the occurrences rise, at start's second of the day; what a nearer end tells. -/
namespace Go.Almanac
open Go.RowKit Go.Proofs Go.Abs

set_option linter.unusedSimpArgs false
set_option linter.unusedVariables false
set_option linter.unusedSectionVars false
set_option maxRecDepth 10000
set_option maxHeartbeats 1000000

theorem first_step {a b : Int} (h : a ≤ b) : first a ≤ first b := by simp only [first]; omega
theorem days_ok1J (y m : Int) : (days y m 1).2 = decide (1 ≤ mlen y m) := by
  unfold days
  split
  · rename_i h; exact (decide_eq_false (by omega)).symm
  · rename_i h; exact (decide_eq_true (by omega)).symm
theorem month_at {y m : Int} (h : (days y m 1).2 = true) : 1 ≤ y ∧ y ≤ 9999 ∧ 1 ≤ m ∧ m ≤ 12 ∧ (days y m 1).1 = first y + psum y (m - 1).toNat ∧ (days y m 1).1 + mlen y m = first y + psum y m.toNat := by
  rw [days_ok1J] at h
  have h1 : 1 ≤ mlen y m := by simpa using h
  have hv := mlen_pos (y := y) (m := m) (by omega)
  have e1 : (days y m 1).1 = first y + psum y (m - 1).toNat + 1 - 1 := by unfold days; rw [if_neg (by omega)]
  have e2 : psum y m.toNat = psum y (m - 1).toNat + mlen y m := by
    rw [mlen_get (by omega) (by omega), show m.toNat = (m - 1).toNat + 1 by omega]; rfl
  refine ⟨by omega, by omega, by omega, by omega, by omega, by omega⟩
/-- Periods stand one behind the other. -/
theorem period_step (R : RuleD) {f y m k : Int} (hi : 1 ≤ R.interval) (hw : True) (h1 : (periodF R f y m k).2.2 = true) (h2 : (periodF R f y m (k + 1)).2.2 = true) :
    (periodF R f y m k).1 + (periodF R f y m k).2.1 ≤ (periodF R f y m (k + 1)).1 := by
  have hk : (k + 1) * R.interval = k * R.interval + R.interval := by rw [Int.add_mul, Int.one_mul]
  unfold periodF at h1 h2 ⊢
  rw [hk] at h2 ⊢
  generalize k * R.interval = a at *
  generalize R.interval = i at *
  by_cases f1 : R.freq = 1
  · simp only [if_pos f1] at *; omega
  · by_cases f2 : R.freq = 2
    · simp only [if_neg f1, if_pos f2] at *; omega
    · by_cases f3 : R.freq = 3
      · simp only [if_neg f1, if_neg f2, if_pos f3] at *
        obtain ⟨q1, q2, q3, q4, q5, q6⟩ := month_at h1
        obtain ⟨p1, p2, p3, p4, p5, p6⟩ := month_at h2
        rw [q6, p5]
        generalize hI : y * 12 + m - 1 + a = I at *
        rw [show y * 12 + m - 1 + (a + i) = I + i by omega] at *
        by_cases hy : I / 12 = (I + i) / 12
        · rw [← hy]
          have := psum_mono (I / 12) (j := (I % 12 + 1).toNat) (k := ((I + i) % 12 + 1 - 1).toNat) (by omega)
          omega
        · have g1 := psum_mono (I / 12) (j := (I % 12 + 1).toNat) (k := 12) (by omega)
          have g2 := first_next q1
          have g3 := first_step (show I / 12 + 1 ≤ (I + i) / 12 by omega)
          have g4 := (psum_bounds ((I + i) / 12) ((I + i) % 12 + 1 - 1).toNat).1
          omega
      · simp only [if_neg f1, if_neg f2, if_neg f3] at *
        obtain ⟨q1, q2, _⟩ := month_at h1
        obtain ⟨p1, p2, _⟩ := month_at h2
        obtain ⟨e1, e2, _⟩ := year_first q1 q2
        obtain ⟨e3, _⟩ := year_first p1 p2
        have g3 := first_step (show y + a + 1 ≤ y + (a + i) by omega)
        omega
theorem pool_up (R : RuleD) (f m0 d0 s : Int) (n : Nat) : (poolF R f m0 d0 s n).Pairwise (· < ·) := by
  unfold poolF
  refine List.Pairwise.filter _ ?_
  rw [List.pairwise_map]
  exact List.pairwise_lt_range.imp fun h => by omega
theorem pick_up {R : RuleD} {l : List Int} (h : l.Pairwise (· < ·)) : (pickF R l).Pairwise (· < ·) := by
  unfold pickF
  rw [List.pairwise_map]
  refine (List.Pairwise.filter _ List.pairwise_lt_range).imp_of_mem fun {a b} ha hb hab => ?_
  have h1 := List.mem_range.1 (List.mem_filter.1 ha).1
  have h2 := List.mem_range.1 (List.mem_filter.1 hb).1
  have := List.pairwise_iff_getElem.1 h a b h1 h2 hab
  simpa [List.getD, List.getElem?_eq_getElem h1, List.getElem?_eq_getElem h2] using this
theorem round_app (R : RuleD) (start secs : Int) : ∀ (ds l : List Int), ds.Pairwise (· < ·) → ∃ more, (roundF R start secs ds l).1 = l ++ more ∧ more.Pairwise (· < ·) ∧ ∀ x ∈ more, start < x ∧ ∃ d ∈ ds, x = d * 86400 + secs
  | [], l, _ => ⟨[], by simp [roundF]⟩
  | d :: ds, l, h => by
    rw [List.pairwise_cons] at h
    rw [roundF]
    split
    · obtain ⟨more, e1, e2, e3⟩ := round_app R start secs ds l h.2
      refine ⟨more, e1, e2, fun x hx => ?_⟩
      obtain ⟨g1, d', g2, g3⟩ := e3 x hx
      exact ⟨g1, d', by simp [g2], g3⟩
    · rename_i hc
      split
      · exact ⟨[], by simp⟩
      · obtain ⟨more, e1, e2, e3⟩ := round_app R start secs ds (l ++ [d * 86400 + secs]) h.2
        refine ⟨(d * 86400 + secs) :: more, by rw [e1]; simp, ?_, fun x hx => ?_⟩
        · rw [List.pairwise_cons]
          refine ⟨fun x hx => ?_, e2⟩
          obtain ⟨_, d', g2, g3⟩ := e3 x hx
          have := h.1 d' g2
          omega
        · rcases List.mem_cons.1 hx with rfl | hx
          · exact ⟨by omega, d, by simp, rfl⟩
          · obtain ⟨g1, d', g2, g3⟩ := e3 x hx
            exact ⟨g1, d', by simp [g2], g3⟩
section
variable (R : RuleD) (start f secs y m d0 : Int) (hi : 1 ≤ R.interval)
include hi
theorem go_app (upto : Int) : ∀ (n : Nat) (k : Int) (l : List Int), ∃ more, (goF R start upto f secs y m d0 n k l).1 = l ++ more ∧ more.Pairwise (· < ·) ∧
    ∀ x ∈ more, (periodF R f y m k).2.2 = true ∧ start < x ∧ ∃ d, x = d * 86400 + secs ∧ (periodF R f y m k).1 ≤ d
  | 0, k, l => by
    rw [goF]
    split <;> exact ⟨[], by simp⟩
  | n + 1, k, l => by
    rw [goF]
    split
    · exact ⟨[], by simp⟩
    rename_i hs
    have hok : (periodF R f y m k).2.2 = true := by
      cases hx : (periodF R f y m k).2.2
      · exact absurd (.inr (.inl (by rw [hx]; decide))) hs
      · rfl
    obtain ⟨m1, a1, a2, a3⟩ := round_app R start secs (pickF R (poolF R f m d0 (periodF R f y m k).1 (periodF R f y m k).2.1.toNat)) l (pick_up (pool_up R f m d0 _ _))
    have a4 : ∀ x ∈ m1, start < x ∧ ∃ d, x = d * 86400 + secs ∧ (periodF R f y m k).1 ≤ d ∧ d < (periodF R f y m k).1 + (periodF R f y m k).2.1 := fun x hx => by
      obtain ⟨g1, d, g2, g3⟩ := a3 x hx
      obtain ⟨g4, g5⟩ := pick_mem g2
      exact ⟨g1, d, g3, g4, by omega⟩
    split
    · refine ⟨m1, a1, a2, fun x hx => ?_⟩
      obtain ⟨g1, d, g2, g3, _⟩ := a4 x hx
      exact ⟨hok, g1, d, g2, g3⟩
    · obtain ⟨m2, b1, b2, b3⟩ := go_app upto n (k + 1) (roundF R start secs (pickF R (poolF R f m d0 (periodF R f y m k).1 (periodF R f y m k).2.1.toNat)) l).1
      refine ⟨m1 ++ m2, by rw [b1, a1, List.append_assoc], ?_, fun x hx => ?_⟩
      · rw [List.pairwise_append]
        refine ⟨a2, b2, fun x hx z hz => ?_⟩
        obtain ⟨_, d, g2, g3, g4⟩ := a4 x hx
        obtain ⟨p1, p2, d', p3, p4⟩ := b3 z hz
        have := period_step R hi trivial hok p1
        omega
      · rcases List.mem_append.1 hx with hx | hx
        · obtain ⟨g1, d, g2, g3, _⟩ := a4 x hx
          exact ⟨hok, g1, d, g2, g3⟩
        · obtain ⟨p1, p2, d', p3, p4⟩ := b3 x hx
          have := period_step R hi trivial hok p1
          have hn := (period_n R hok).1
          exact ⟨hok, p2, d', p3, by omega⟩
theorem go_two (hs0 : 0 ≤ secs) {mid upto : Int} (hm : mid ≤ upto) : ∀ (n : Nat) (k : Int) (l : List Int), (goF R start upto f secs y m d0 n k l).2 = true →
    (goF R start mid f secs y m d0 n k l).2 = true ∧ (goF R start mid f secs y m d0 n k l).1.filter (fun x => decide (x < mid)) = (goF R start upto f secs y m d0 n k l).1.filter (fun x => decide (x < mid)) := by
  intro n k l h
  by_cases hA : fullF R l = true ∨ stopF R f y m upto k = true
  · have hB : fullF R l = true ∨ stopF R f y m mid k = true := by
      rcases hA with h | h
      · exact .inl h
      · refine .inr ?_
        unfold stopF at h ⊢
        simp only [Bool.or_eq_true, decide_eq_true_eq] at h ⊢
        rcases h with (h | h) | h
        · exact .inl (.inl h)
        · exact .inl (.inr (by omega))
        · exact .inr h
    rw [goF_stop R start upto f secs y m d0 hA, goF_stop R start mid f secs y m d0 hB]
    exact ⟨rfl, rfl⟩
  · by_cases hB : fullF R l = true ∨ stopF R f y m mid k = true
    · rw [goF_stop R start mid f secs y m d0 hB]
      refine ⟨rfl, ?_⟩
      obtain ⟨more, e1, _, e3⟩ := go_app R start f secs y m d0 hi upto n k l
      rw [e1, List.filter_append]
      have hmid : mid ≤ (periodF R f y m k).1 * 86400 := by
        rcases hB with h | h
        · exact absurd (.inl h) hA
        · unfold stopF at h hA
          simp only [Bool.or_eq_true, decide_eq_true_eq] at h hA
          rcases h with (h | h) | h
          · exact absurd (.inr (.inl (.inl h))) hA
          · exact h
          · exact absurd (.inr (.inr h)) hA
      have : more.filter (fun x => decide (x < mid)) = [] := by
        rw [List.filter_eq_nil_iff]
        intro x hx
        obtain ⟨_, _, d, g2, g3⟩ := e3 x hx
        simp; omega
      rw [this, List.append_nil]
    · cases n with
      | zero => rw [goF_end R start upto f secs y m d0 hA] at h; cases h
      | succ n =>
        rw [goF_next R start upto f secs y m d0 hA] at h ⊢
        rw [goF_next R start mid f secs y m d0 hB]
        split at h
        · rename_i hq; rw [if_pos hq, if_pos hq]; exact ⟨rfl, rfl⟩
        · rename_i hq; rw [if_neg hq, if_neg hq]; exact go_two hs0 hm n (k + 1) _ h
end
end Go.Almanac

/- Recurrence: what windows tell. -/
namespace Go.Almanac
open Go.RowKit Go.Proofs Go.Abs

set_option linter.unusedSimpArgs false
set_option linter.unusedVariables false
set_option linter.unusedSectionVars false
set_option maxRecDepth 10000
set_option maxHeartbeats 1000000

theorem all_app (R : RuleD) (start upto : Int) (hi : 1 ≤ R.interval) : ∃ more, (allF R start upto).1 = start :: more ∧ (start :: more).Pairwise (· < ·) ∧ ∀ x ∈ start :: more, x % 86400 = start % 86400 := by
  obtain ⟨more, e1, e2, e3⟩ := go_app R start (start / 86400) (start % 86400) (civ (start / 86400)).1 (civ (start / 86400)).2.1 (civ (start / 86400)).2.2.1 hi upto 4000 0 [start]
  refine ⟨more, e1, ?_, fun x hx => ?_⟩
  · rw [List.pairwise_cons]
    exact ⟨fun x hx => (e3 x hx).2.1, e2⟩
  · rcases List.mem_cons.1 hx with rfl | hx
    · rfl
    · obtain ⟨_, _, d, rfl, _⟩ := e3 x hx
      omega
theorem all_two (R : RuleD) (start : Int) {mid upto : Int} (hi : 1 ≤ R.interval) (hm : mid ≤ upto) (h : (allF R start upto).2 = true) :
    (allF R start mid).2 = true ∧ (allF R start mid).1.filter (fun x => decide (x < mid)) = (allF R start upto).1.filter (fun x => decide (x < mid)) :=
  go_two R start (start / 86400) (start % 86400) (civ (start / 86400)).1 (civ (start / 86400)).2.1 (civ (start / 86400)).2.2.1 hi (by omega) hm 4000 0 [start] h
theorem cut_as (from_ upto : Int) (l : List Int) : cutF from_ upto l = (l.filter fun x => decide (x < upto)).filter fun x => decide (from_ ≤ x) := by
  rw [List.filter_filter]
  unfold cutF
  congr 1
  funext x
  unfold outF
  by_cases h1 : x < from_ <;> by_cases h2 : upto ≤ x <;> simp [h1, h2] <;> omega
theorem cut_mem {from_ upto x : Int} {l : List Int} (h : x ∈ cutF from_ upto l) : x ∈ l ∧ from_ ≤ x ∧ x < upto := by
  unfold cutF outF at h
  rw [List.mem_filter] at h
  refine ⟨h.1, ?_⟩
  have := h.2
  simp at this
  omega
theorem cut_join {from_ mid upto : Int} (h1 : from_ ≤ mid) (h2 : mid ≤ upto) : ∀ {l : List Int}, l.Pairwise (· < ·) → cutF from_ mid l ++ cutF mid upto l = cutF from_ upto l
  | [], _ => rfl
  | x :: l, h => by
    rw [List.pairwise_cons] at h
    have ih := cut_join h1 h2 h.2
    have step : ∀ a b : Int, cutF a b (x :: l) = if outF a b x = true then cutF a b l else x :: cutF a b l := fun a b => by
      unfold cutF
      rw [List.filter_cons]
      cases outF a b x <;> rfl
    rw [step, step, step]
    by_cases hx : x < mid
    · rw [if_pos (show outF mid upto x = true by unfold outF; simp; omega)]
      have : outF from_ mid x = outF from_ upto x := by
        unfold outF
        rw [show decide (mid ≤ x) = decide (upto ≤ x) from decide_eq_decide.2 (by omega)]
      rw [this]
      split
      · exact ih
      · rw [List.cons_append, ih]
    · rw [if_pos (show outF from_ mid x = true by unfold outF; simp; omega)]
      have : outF mid upto x = outF from_ upto x := by
        unfold outF
        rw [show decide (x < mid) = decide (x < from_) from decide_eq_decide.2 (by omega)]
      rw [this]
      have hz : cutF from_ mid l = [] := by
        unfold cutF
        rw [List.filter_eq_nil_iff]
        intro z hz
        have := h.1 z hz
        unfold outF
        simp; omega
      rw [hz, List.nil_append] at ih ⊢
      rw [ih]
/-- What windows tell. -/
theorem windows_law {R : RuleD} {start from_ upto : Int} {l : List Int} (h : timesF R start from_ upto 4100 = (l, 0)) :
    l.length ≤ 4100 ∧ (∀ t ∈ l, from_ ≤ t ∧ t < upto ∧ start ≤ t ∧ t % 86400 = start % 86400) ∧ l.Pairwise (· < ·) ∧ (from_ ≤ start → start < upto → l ≠ [] ∧ l.getD 0 0 = start) ∧
    ∀ mid, from_ ≤ mid → mid ≤ upto → ∃ a b, timesF R start from_ mid 4100 = (a, 0) ∧ timesF R start mid upto 4100 = (b, 0) ∧ a ++ b = l := by
  unfold timesF at h
  split at h
  · cases h
  rename_i hin
  split at h
  · cases h
  rename_i hfit
  have hin' : inT start = true := by simpa using hin
  have hfit' : fitR R = true := by simpa using hfit
  obtain ⟨_, _, hi, _⟩ := fit_all hfit'
  rw [if_neg (by decide : ¬ (4100 : Int) < 0)] at h
  split at h
  · cases h
  rename_i hc
  have hok : (allF R start upto).2 = true := by
    cases hx : (allF R start upto).2
    · exact absurd (.inl hx) hc
    · rfl
  have hlen : (cutF from_ upto (allF R start upto).1).length ≤ 4100 := by
    refine Nat.le_of_not_lt fun h => hc (.inr ?_)
    omega
  obtain rfl : cutF from_ upto (allF R start upto).1 = l := (Prod.mk.inj h).1
  obtain ⟨more, e1, e2, e3⟩ := all_app R start upto hi
  refine ⟨hlen, fun t ht => ?_, ?_, fun h1 h2 => ?_, fun mid h1 h2 => ?_⟩
  · obtain ⟨g1, g2, g3⟩ := cut_mem ht
    rw [e1] at g1
    refine ⟨g2, g3, ?_, e3 t g1⟩
    rcases List.mem_cons.1 g1 with rfl | g
    · exact Int.le_refl _
    · exact Int.le_of_lt ((List.pairwise_cons.1 e2).1 t g)
  · rw [e1]; exact List.Pairwise.filter _ e2
  · rw [e1]
    have : cutF from_ upto (start :: more) = start :: cutF from_ upto more := by
      unfold cutF
      rw [List.filter_cons, if_pos (by unfold outF; simp; omega)]
    rw [this]
    exact ⟨by simp, rfl⟩
  · obtain ⟨g1, g2⟩ := all_two R start hi h2 hok
    have ea : cutF from_ mid (allF R start mid).1 = cutF from_ mid (allF R start upto).1 := by rw [cut_as, cut_as, g2]
    have ej := cut_join h1 h2 (l := (allF R start upto).1) (by rw [e1]; exact e2)
    have hl2 : (cutF from_ mid (allF R start upto).1).length + (cutF mid upto (allF R start upto).1).length = (cutF from_ upto (allF R start upto).1).length := by rw [← ej, List.length_append]
    refine ⟨cutF from_ mid (allF R start upto).1, cutF mid upto (allF R start upto).1, ?_, ?_, ej⟩
    · rw [timesF, if_neg hin, if_neg hfit, if_neg, ea]
      rintro (h | h)
      · rw [g1] at h; cases h
      · rw [if_neg (by decide : ¬ (4100 : Int) < 0), ea] at h; omega
    · rw [timesF, if_neg hin, if_neg hfit, if_neg]
      rintro (h | h)
      · rw [hok] at h; cases h
      · rw [if_neg (by decide : ¬ (4100 : Int) < 0)] at h; omega
end Go.Almanac

/- Recurrence: the law of windows, walked through. -/
/-STEPS-/
namespace Go.Almanac
open Go.RowKit Go.Proofs Go.Abs

set_option linter.unusedSimpArgs false
set_option linter.unusedVariables false
set_option linter.unusedSectionVars false
set_option maxRecDepth 10000
set_option maxHeartbeats 1000000

theorem t_TimesS (G : Nat → AV) (R : RuleD) (start from_ upto most : Int) (h0 : -9223372036854775808 ≤ start) (h1 : start ≤ 9223372036854775807) (hs0 : -9223372036854775808 ≤ R.secs) (hs1 : R.secs ≤ 9223372036854775807)
    (hlm : R.byMonth.length ≤ 9223372036854775807) (hld : R.byMonthDay.length ≤ 9223372036854775807) (hlw : R.byDay.length ≤ 9223372036854775807) (hls : R.bySetPos.length ≤ 9223372036854775807) (l : List Int) (er : Int) (hT : timesF R start from_ upto most = (l, er)) (st : St) :
    ACalls (Ev G) 8 [.int .i64 start, .agg (encR R), .int .i64 from_, .int .i64 upto, .int .i64 most] st (fun e st' => ∃ v, SW st 2 1 v st' (intsE l) ∧ e = .ret (.tup [v, .int .i64 er])) := by
  refine ACalls.trunc (t_Times G R start from_ upto most h0 h1 hs0 hs1 hlm hld hlw hls st) ?_
  rintro x st1 ⟨v, hH, rfl⟩
  rw [hT] at hH ⊢
  obtain ⟨hsub, ⟨rfl, rfl⟩ | ⟨ia, g, es, rfl, e2, hn, h4, h5⟩⟩ := hH
  · exact .inl ⟨_, ⟨.inl ⟨rfl, rfl⟩, fun i hi => by
      obtain ⟨B, hB⟩ := Option.ne_none_iff_exists'.1 hi
      rw [hB]; exact hsub i B hB⟩, rfl⟩
  · refine .inr ⟨ia, 2, g, 1, es, l.length, e2, _, ⟨.inr ⟨ia, g, by rw [intsE_length], by rw [h5]; exact St.set_same _ _ _, hn⟩, fun i hi => ?_⟩, rfl⟩
    obtain ⟨B, hB⟩ := Option.ne_none_iff_exists'.1 hi
    have : i ≠ ia := fun e => by subst e; rw [hn] at hB; cases hB
    rw [St.set_ne _ _ this, hB]; exact hsub i B hB
@[local go_sem] theorem intsE_nilJ : intsE [] = [] := rfl
@[local go_sem] theorem getD_nilJ {α : Type} (i : Nat) (d : α) : ([] : List α).getD i d = d := rfl
set_option maxHeartbeats 8000000 in
theorem l_RecurWindows (G : Nat → AV) (R : RuleD) (start from_ mid upto : Int) (h0 : -9223372036854775808 ≤ start) (h1 : start ≤ 9223372036854775807) (hs0 : -9223372036854775808 ≤ R.secs) (hs1 : R.secs ≤ 9223372036854775807)
    (hlm : R.byMonth.length ≤ 9223372036854775807) (hld : R.byMonthDay.length ≤ 9223372036854775807) (hlw : R.byDay.length ≤ 9223372036854775807) (hls : R.bySetPos.length ≤ 9223372036854775807)
    (hf0 : -9223372036854775808 ≤ from_) (hf1 : from_ ≤ 9223372036854775807) (hm0 : -9223372036854775808 ≤ mid) (hm1 : mid ≤ 9223372036854775807) (hu0 : -9223372036854775808 ≤ upto) (hu1 : upto ≤ 9223372036854775807) (st : St) :
    ACalls (Ev G) 4 [.int .i64 start, .agg (encR R), .int .i64 from_, .int .i64 mid, .int .i64 upto] st (fun e st' => e = .ret (.bool true)) := by
  obtain ⟨⟨l, er⟩, hT⟩ : ∃ p, timesF R start from_ upto 4100 = p := ⟨_, rfl⟩
  refine ACalls.of_body Tryd.func4 rfl ?_
  rw [Tryd.ntmps4]
  simp only [List.length_cons, List.length_nil, Nat.reduceAdd, Nat.reduceSub, List.replicate_succ, List.replicate_zero, List.cons_append, List.nil_append]
  (repeat' (first | refine AW.seq ?_ | refine AW.scope ?_ | refine AW.label ?_ | refine AW.block ?_ | refine AW.skip ?_ | refine AW.exit ?_ | refine AW.ret ?_))
  (refine AW.regionC fun Q' Kn hQ hK hK' => ?_; (repeat simp (config := { maxSteps := 4000000 }) (disch := omega) only [go_sem, redN, Nat.reduceAdd, Int.reduceToNat, Int.reducePow]); (repeat' refine And.intro ?_ ?_); (try any_goals (first | (refine hK _ _ ?_; clear hK' hQ hK Q' Kn) | (intro hq9; refine ⟨hq9, ?_⟩; simp only [redB] at hq9; omega) | (intro hq9; refine ⟨hq9, fun hq8 => ?_⟩; rw [hq9, hq8]; rfl) | (simp; done) | omega | (simp only [redL]; omega) | (simp only [List.length_append, List.length_cons, List.length_nil, intsE_length, wdsE_length]; omega) | (simp; omega) | (intros; (repeat' refine And.intro ?_ ?_) <;> (first | assumption | omega | (simp; done))))))
  refine AOp.box rfl (by simp [go_sem]) (by simp only [go_sem]; rfl) fun b6 hb6 => ?_
  (refine AOpsC_ok hK' _ _ _ ?_; (repeat simp (config := { maxSteps := 4000000 }) (disch := omega) only [go_sem, redN, Nat.reduceAdd, Int.reduceToNat, Int.reducePow]); (repeat' refine And.intro ?_ ?_); (try any_goals (first | (refine hK _ _ ?_; clear hK' hQ hK Q' Kn) | (intro hq9; refine ⟨hq9, ?_⟩; simp only [redB] at hq9; omega) | (intro hq9; refine ⟨hq9, fun hq8 => ?_⟩; rw [hq9, hq8]; rfl) | (simp; done) | omega | (simp only [redL]; omega) | (simp only [List.length_append, List.length_cons, List.length_nil, intsE_length, wdsE_length]; omega) | (simp; omega) | (intros; (repeat' refine And.intro ?_ ?_) <;> (first | assumption | omega | (simp; done))))))
  refine AW.freeze 6 rfl (St.set_same _ _ _) ?_
  rw [St.del_set _ _ hb6]
  (repeat' (first | refine AW.seq ?_ | refine AW.scope ?_ | refine AW.label ?_ | refine AW.block ?_ | refine AW.skip ?_ | refine AW.exit ?_ | refine AW.ret ?_))
  (refine AW.regionC fun Q' Kn hQ hK hK' => ?_; (repeat simp (config := { maxSteps := 4000000 }) (disch := omega) only [go_sem, redN, Nat.reduceAdd, Int.reduceToNat, Int.reducePow]); (repeat' refine And.intro ?_ ?_); (try any_goals (first | (refine hK _ _ ?_; clear hK' hQ hK Q' Kn) | (intro hq9; refine ⟨hq9, ?_⟩; simp only [redB] at hq9; omega) | (intro hq9; refine ⟨hq9, fun hq8 => ?_⟩; rw [hq9, hq8]; rfl) | (simp; done) | omega | (simp only [redL]; omega) | (simp only [List.length_append, List.length_cons, List.length_nil, intsE_length, wdsE_length]; omega) | (simp; omega) | (intros; (repeat' refine And.intro ?_ ?_) <;> (first | assumption | omega | (simp; done))))))
  refine AOp.call rfl (by simp only [go_sem]; rfl) (by simp [go_sem]) rfl (ACalls.mono (by simp only [go_sem]; exact t_TimesL G R start from_ upto 4100 h0 h1 hs0 hs1 hlm hld hlw hls l er hT _) ?_)
  rintro e σ7 ⟨h7, rfl⟩; subst σ7
  (refine AOpsC_ok hK' _ _ _ ?_; (repeat simp (config := { maxSteps := 4000000 }) (disch := omega) only [go_sem, redN, Nat.reduceAdd, Int.reduceToNat, Int.reducePow]); (repeat' refine And.intro ?_ ?_); (try any_goals (first | (refine hK _ _ ?_; clear hK' hQ hK Q' Kn) | (intro hq9; refine ⟨hq9, ?_⟩; simp only [redB] at hq9; omega) | (intro hq9; refine ⟨hq9, fun hq8 => ?_⟩; rw [hq9, hq8]; rfl) | (simp; done) | omega | (simp only [redL]; omega) | (simp only [List.length_append, List.length_cons, List.length_nil, intsE_length, wdsE_length]; omega) | (simp; omega) | (intros; (repeat' refine And.intro ?_ ?_) <;> (first | assumption | omega | (simp; done))))))
  (repeat' (first | refine AW.seq ?_ | refine AW.scope ?_ | refine AW.label ?_ | refine AW.block ?_ | refine AW.skip ?_ | refine AW.exit ?_ | refine AW.ret ?_))
  (refine AW.regionC fun Q' Kn hQ hK hK' => ?_; (repeat simp (config := { maxSteps := 4000000 }) (disch := omega) only [go_sem, redN, Nat.reduceAdd, Int.reduceToNat, Int.reducePow]); (repeat' refine And.intro ?_ ?_); (try any_goals (first | (refine hK _ _ ?_; clear hK' hQ hK Q' Kn) | (intro hq9; refine ⟨hq9, ?_⟩; simp only [redB] at hq9; omega) | (intro hq9; refine ⟨hq9, fun hq8 => ?_⟩; rw [hq9, hq8]; rfl) | (simp; done) | omega | (simp only [redL]; omega) | (simp only [List.length_append, List.length_cons, List.length_nil, intsE_length, wdsE_length]; omega) | (simp; omega) | (intros; (repeat' refine And.intro ?_ ?_) <;> (first | assumption | omega | (simp; done))))))
  (repeat' (first | refine AW.seq ?_ | refine AW.scope ?_ | refine AW.label ?_ | refine AW.block ?_ | refine AW.skip ?_ | refine AW.exit ?_ | refine AW.ret ?_))
  (refine AW.cond (by simp (config := { maxSteps := 4000000 }) (disch := omega) only [go_sem, redN, Nat.reduceAdd, Int.reduceToNat, Int.reducePow]; rfl) (fun hb => ?_) (fun hb => ?_) <;> (try simp only [redB] at hb))
  · (repeat' (first | refine AW.seq ?_ | refine AW.scope ?_ | refine AW.label ?_ | refine AW.block ?_ | refine AW.skip ?_ | refine AW.exit ?_ | refine AW.ret ?_))
    (refine AW.regionC fun Q' Kn hQ hK hK' => ?_; (repeat simp (config := { maxSteps := 4000000 }) (disch := omega) only [go_sem, redN, Nat.reduceAdd, Int.reduceToNat, Int.reducePow]); (repeat' refine And.intro ?_ ?_); (try any_goals (first | (refine hK _ _ ?_; clear hK' hQ hK Q' Kn) | (intro hq9; refine ⟨hq9, ?_⟩; simp only [redB] at hq9; omega) | (intro hq9; refine ⟨hq9, fun hq8 => ?_⟩; rw [hq9, hq8]; rfl) | (simp; done) | omega | (simp only [redL]; omega) | (simp only [List.length_append, List.length_cons, List.length_nil, intsE_length, wdsE_length]; omega) | (simp; omega) | (intros; (repeat' refine And.intro ?_ ?_) <;> (first | assumption | omega | (simp; done))))))
    refine AOp.call rfl (by simp only [go_sem]; rfl) (by simp [go_sem]) rfl (ACalls.mono (by simp only [go_sem]; exact l_awake G _) ?_)
    rintro e σ7 ⟨h7, rfl⟩; subst σ7
    (refine AOpsC_ok hK' _ _ _ ?_; (repeat simp (config := { maxSteps := 4000000 }) (disch := omega) only [go_sem, redN, Nat.reduceAdd, Int.reduceToNat, Int.reducePow]); (repeat' refine And.intro ?_ ?_); (try any_goals (first | (refine hK _ _ ?_; clear hK' hQ hK Q' Kn) | (intro hq9; refine ⟨hq9, ?_⟩; simp only [redB] at hq9; omega) | (intro hq9; refine ⟨hq9, fun hq8 => ?_⟩; rw [hq9, hq8]; rfl) | (simp; done) | omega | (simp only [redL]; omega) | (simp only [List.length_append, List.length_cons, List.length_nil, intsE_length, wdsE_length]; omega) | (simp; omega) | (intros; (repeat' refine And.intro ?_ ?_) <;> (first | assumption | omega | (simp; done))))))
    (repeat' (first | refine AW.seq ?_ | refine AW.scope ?_ | refine AW.label ?_ | refine AW.block ?_ | refine AW.skip ?_ | refine AW.exit ?_ | refine AW.ret ?_))
    (refine ⟨_, _, rfl, by simp, ?_⟩; simp only [aTup, AA.get, List.getD_cons_zero, List.getD_cons_succ, true_and])
  have her : er = 0 := by simpa using hb
  subst her
  obtain ⟨w1, w2, w3, w4, w5⟩ := windows_law hT
  (repeat' (first | refine AW.seq ?_ | refine AW.scope ?_ | refine AW.label ?_ | refine AW.block ?_ | refine AW.skip ?_ | refine AW.exit ?_ | refine AW.ret ?_))
  (refine AW.regionC fun Q' Kn hQ hK hK' => ?_; (repeat simp (config := { maxSteps := 4000000 }) (disch := omega) only [go_sem, redN, Nat.reduceAdd, Int.reduceToNat, Int.reducePow]); (repeat' refine And.intro ?_ ?_); (try any_goals (first | (refine hK _ _ ?_; clear hK' hQ hK Q' Kn) | (intro hq9; refine ⟨hq9, ?_⟩; simp only [redB] at hq9; omega) | (intro hq9; refine ⟨hq9, fun hq8 => ?_⟩; rw [hq9, hq8]; rfl) | (simp; done) | omega | (simp only [redL]; omega) | (simp only [List.length_append, List.length_cons, List.length_nil, intsE_length, wdsE_length]; omega) | (simp; omega) | (intros; (repeat' refine And.intro ?_ ?_) <;> (first | assumption | omega | (simp; done))))))
  refine AOp.call rfl (by simp only [go_sem]; rfl) (by simp [go_sem]) rfl (ACalls.mono (by simp only [go_sem]; exact t_Parts G start h0 h1 _) ?_)
  rintro e σ7 ⟨h7, rfl⟩; subst σ7
  (refine AOpsC_ok hK' _ _ _ ?_; (repeat simp (config := { maxSteps := 4000000 }) (disch := omega) only [go_sem, redN, Nat.reduceAdd, Int.reduceToNat, Int.reducePow]); (repeat' refine And.intro ?_ ?_); (try any_goals (first | (refine hK _ _ ?_; clear hK' hQ hK Q' Kn) | (intro hq9; refine ⟨hq9, ?_⟩; simp only [redB] at hq9; omega) | (intro hq9; refine ⟨hq9, fun hq8 => ?_⟩; rw [hq9, hq8]; rfl) | (simp; done) | omega | (simp only [redL]; omega) | (simp only [List.length_append, List.length_cons, List.length_nil, intsE_length, wdsE_length]; omega) | (simp; omega) | (intros; (repeat' refine And.intro ?_ ?_) <;> (first | assumption | omega | (simp; done))))))
  (repeat' (first | refine AW.seq ?_ | refine AW.scope ?_ | refine AW.label ?_ | refine AW.block ?_ | refine AW.skip ?_ | refine AW.exit ?_ | refine AW.ret ?_))
  (refine AW.regionC fun Q' Kn hQ hK hK' => ?_; (repeat simp (config := { maxSteps := 4000000 }) (disch := omega) only [go_sem, redN, Nat.reduceAdd, Int.reduceToNat, Int.reducePow]); (repeat' refine And.intro ?_ ?_); (try any_goals (first | (refine hK _ _ ?_; clear hK' hQ hK Q' Kn) | (intro hq9; refine ⟨hq9, ?_⟩; simp only [redB] at hq9; omega) | (intro hq9; refine ⟨hq9, fun hq8 => ?_⟩; rw [hq9, hq8]; rfl) | (simp; done) | omega | (simp only [redL]; omega) | (simp only [List.length_append, List.length_cons, List.length_nil, intsE_length, wdsE_length]; omega) | (simp; omega) | (intros; (repeat' refine And.intro ?_ ?_) <;> (first | assumption | omega | (simp; done))))))
  (repeat' (first | refine AW.seq ?_ | refine AW.scope ?_ | refine AW.label ?_ | refine AW.block ?_ | refine AW.skip ?_ | refine AW.exit ?_ | refine AW.ret ?_))
  refine AW.loopF (fun k : Nat => [.int .i64 start, .junk, .int .i64 from_, .int .i64 mid, .int .i64 upto, .junk, .fptr (encR R), .junk, .junk, .junk, .junk, .tree 1 (intsE l), .junk, .junk, .int .i64 (start % 86400), .junk, .junk, .junk, .junk, .junk, .junk, .junk, .junk, .junk, .junk, .junk, .junk, .junk, .junk, .junk, .junk, .junk, .junk, .junk, .junk, .junk, .junk, .junk, .junk, .tree 1 (intsE l), .int .i64 l.length, .int .i64 k, .junk, .junk, .junk, .junk, .junk, .junk, .junk, .junk, .junk, .junk, .junk, .junk, .junk, .junk, .junk, .junk, .junk, .junk, .junk, .junk, .junk, .junk, .junk, .junk, .junk, .junk, .junk, .junk, .junk, .junk, .junk, .junk, .junk, .junk, .junk, .junk, .junk, .junk, .junk, .junk, .junk, .junk, .junk, .junk, .junk, .junk, .junk, .junk, .junk, .junk, .junk, .junk, .junk, .junk, .junk, .junk, .junk, .junk, .junk, .junk, .junk, .junk, .junk, .junk, .junk, .junk, .junk, .junk, .junk, .junk, .junk, .junk, .junk, .junk, .junk, .junk, .junk, .junk, .junk, .junk, .junk, .junk, .junk, .junk, .junk, .junk, .junk, .junk, .junk, .junk, .junk, .junk, .junk, .junk, .junk, .junk, .junk, .junk, .junk, .junk, .junk, .junk]) (fun _ => st)
    (fun k => k ≤ l.length) (fun k => l.length - k) 0 ?_ rfl ?_ ?_
  · (repeat (first | exact Weak.nil | refine Weak.junk _ ?_ | refine Weak.same _ ?_ | refine Weak.eqv (by (congr 1; first | omega | (simp; done) | exact w_i64 (by omega) (by omega))) ?_))
  · omega
  · intro k hk0
    (repeat' (first | refine AW.seq ?_ | refine AW.scope ?_ | refine AW.label ?_ | refine AW.block ?_ | refine AW.skip ?_ | refine AW.exit ?_ | refine AW.ret ?_))
    (refine AW.regionC fun Q' Kn hQ hK hK' => ?_; (repeat simp (config := { maxSteps := 4000000 }) (disch := omega) only [go_sem, redN, Nat.reduceAdd, Int.reduceToNat, Int.reducePow]); (repeat' refine And.intro ?_ ?_); (try any_goals (first | (refine hK _ _ ?_; clear hK' hQ hK Q' Kn) | (intro hq9; refine ⟨hq9, ?_⟩; simp only [redB] at hq9; omega) | (intro hq9; refine ⟨hq9, fun hq8 => ?_⟩; rw [hq9, hq8]; rfl) | (simp; done) | omega | (simp only [redL]; omega) | (simp only [List.length_append, List.length_cons, List.length_nil, intsE_length, wdsE_length]; omega) | (simp; omega) | (intros; (repeat' refine And.intro ?_ ?_) <;> (first | assumption | omega | (simp; done))))))
    (repeat' (first | refine AW.seq ?_ | refine AW.scope ?_ | refine AW.label ?_ | refine AW.block ?_ | refine AW.skip ?_ | refine AW.exit ?_ | refine AW.ret ?_))
    (refine AW.cond (by simp (config := { maxSteps := 4000000 }) (disch := omega) only [go_sem, redN, Nat.reduceAdd, Int.reduceToNat, Int.reducePow]; rfl) (fun hb => ?_) (fun hb => ?_) <;> (try simp only [redB] at hb))
    · have hk : k < l.length := by omega
      obtain ⟨x, hx⟩ : ∃ x, l.getD k 0 = x := ⟨_, rfl⟩
      have hxe : l[k] = x := by rw [← hx]; simp [List.getD, List.getElem?_eq_getElem hk]
      obtain ⟨g1, g2, g3, g4⟩ := w2 x (by rw [← hxe]; exact List.getElem_mem hk)
      have g5 : 0 < k → l.getD (k - 1) 0 < x := fun h => by
        have := List.pairwise_iff_getElem.1 w3 (k - 1) k (by omega) hk (by omega)
        rw [hxe] at this
        simpa [List.getD, List.getElem?_eq_getElem (show k - 1 < l.length by omega)] using this
      (repeat' (first | refine AW.seq ?_ | refine AW.scope ?_ | refine AW.label ?_ | refine AW.block ?_ | refine AW.skip ?_ | refine AW.exit ?_ | refine AW.ret ?_))
      (refine AW.regionC fun Q' Kn hQ hK hK' => ?_; (repeat simp (config := { maxSteps := 4000000 }) (disch := omega) only [go_sem, redN, Nat.reduceAdd, Int.reduceToNat, Int.reducePow]); (repeat' refine And.intro ?_ ?_); (try any_goals (first | (refine hK _ _ ?_; clear hK' hQ hK Q' Kn) | (intro hq9; refine ⟨hq9, ?_⟩; simp only [redB] at hq9; omega) | (intro hq9; refine ⟨hq9, fun hq8 => ?_⟩; rw [hq9, hq8]; rfl) | (simp; done) | omega | (simp only [redL]; omega) | (simp only [List.length_append, List.length_cons, List.length_nil, intsE_length, wdsE_length]; omega) | (simp; omega) | (intros; (repeat' refine And.intro ?_ ?_) <;> (first | assumption | omega | (simp; done))))))
      try rw [hx]
      (repeat' (first | refine AW.seq ?_ | refine AW.scope ?_ | refine AW.label ?_ | refine AW.block ?_ | refine AW.skip ?_ | refine AW.exit ?_ | refine AW.ret ?_))
      (refine AW.regionC fun Q' Kn hQ hK hK' => ?_; (repeat simp (config := { maxSteps := 4000000 }) (disch := omega) only [go_sem, redN, Nat.reduceAdd, Int.reduceToNat, Int.reducePow]); (repeat' refine And.intro ?_ ?_); (try any_goals (first | (refine hK _ _ ?_; clear hK' hQ hK Q' Kn) | (intro hq9; refine ⟨hq9, ?_⟩; simp only [redB] at hq9; omega) | (intro hq9; refine ⟨hq9, fun hq8 => ?_⟩; rw [hq9, hq8]; rfl) | (simp; done) | omega | (simp only [redL]; omega) | (simp only [List.length_append, List.length_cons, List.length_nil, intsE_length, wdsE_length]; omega) | (simp; omega) | (intros; (repeat' refine And.intro ?_ ?_) <;> (first | assumption | omega | (simp; done))))))
      refine AOp.call rfl (by simp only [go_sem]; rfl) (by simp [go_sem]) rfl (ACalls.mono (by simp only [go_sem]; exact t_Parts G x (by omega) (by omega) _) ?_)
      rintro e σ7 ⟨h7, rfl⟩; subst σ7
      (refine AOpsC_ok hK' _ _ _ ?_; (repeat simp (config := { maxSteps := 4000000 }) (disch := omega) only [go_sem, redN, Nat.reduceAdd, Int.reduceToNat, Int.reducePow]); (repeat' refine And.intro ?_ ?_); (try any_goals (first | (refine hK _ _ ?_; clear hK' hQ hK Q' Kn) | (intro hq9; refine ⟨hq9, ?_⟩; simp only [redB] at hq9; omega) | (intro hq9; refine ⟨hq9, fun hq8 => ?_⟩; rw [hq9, hq8]; rfl) | (simp; done) | omega | (simp only [redL]; omega) | (simp only [List.length_append, List.length_cons, List.length_nil, intsE_length, wdsE_length]; omega) | (simp; omega) | (intros; (repeat' refine And.intro ?_ ?_) <;> (first | assumption | omega | (simp; done))))))
      (repeat' (first | refine AW.seq ?_ | refine AW.scope ?_ | refine AW.label ?_ | refine AW.block ?_ | refine AW.skip ?_ | refine AW.exit ?_ | refine AW.ret ?_))
      (refine AW.regionC fun Q' Kn hQ hK hK' => ?_; (repeat simp (config := { maxSteps := 4000000 }) (disch := omega) only [go_sem, redN, Nat.reduceAdd, Int.reduceToNat, Int.reducePow]); (repeat' refine And.intro ?_ ?_); (try any_goals (first | (refine hK _ _ ?_; clear hK' hQ hK Q' Kn) | (intro hq9; refine ⟨hq9, ?_⟩; simp only [redB] at hq9; omega) | (intro hq9; refine ⟨hq9, fun hq8 => ?_⟩; rw [hq9, hq8]; rfl) | (simp; done) | omega | (simp only [redL]; omega) | (simp only [List.length_append, List.length_cons, List.length_nil, intsE_length, wdsE_length]; omega) | (simp; omega) | (intros; (repeat' refine And.intro ?_ ?_) <;> (first | assumption | omega | (simp; done))))))
      (repeat' (first | refine AW.seq ?_ | refine AW.scope ?_ | refine AW.label ?_ | refine AW.block ?_ | refine AW.skip ?_ | refine AW.exit ?_ | refine AW.ret ?_))
      (refine AW.cond (by simp (config := { maxSteps := 4000000 }) (disch := omega) only [go_sem, redN, Nat.reduceAdd, Int.reduceToNat, Int.reducePow]; rfl) (fun hb => ?_) (fun hb => ?_) <;> (try simp only [redB] at hb))
      · exfalso
        rcases hb with (((h | h) | h) | h) | ⟨h, h'⟩
        · omega
        · omega
        · omega
        · exact h g4
        · have h5 := g5 (by omega)
          rw [show ((k : Int) - 1).toNat = k - 1 by omega] at h'
          omega
      · clear hb
        (repeat' (first | refine AW.seq ?_ | refine AW.scope ?_ | refine AW.label ?_ | refine AW.block ?_ | refine AW.skip ?_ | refine AW.exit ?_ | refine AW.ret ?_))
        (refine AW.regionC fun Q' Kn hQ hK hK' => ?_; (repeat simp (config := { maxSteps := 4000000 }) (disch := omega) only [go_sem, redN, Nat.reduceAdd, Int.reduceToNat, Int.reducePow]); (repeat' refine And.intro ?_ ?_); (try any_goals (first | (refine hK _ _ ?_; clear hK' hQ hK Q' Kn) | (intro hq9; refine ⟨hq9, ?_⟩; simp only [redB] at hq9; omega) | (intro hq9; refine ⟨hq9, fun hq8 => ?_⟩; rw [hq9, hq8]; rfl) | (simp; done) | omega | (simp only [redL]; omega) | (simp only [List.length_append, List.length_cons, List.length_nil, intsE_length, wdsE_length]; omega) | (simp; omega) | (intros; (repeat' refine And.intro ?_ ?_) <;> (first | assumption | omega | (simp; done))))))
        refine ⟨k + 1, by omega, by omega, ?_, rfl, rfl⟩
        (repeat (first | exact Weak.nil | refine Weak.junk _ ?_ | refine Weak.same _ ?_ | refine Weak.eqv (by (congr 1; first | omega | (simp; done) | exact w_i64 (by omega) (by omega))) ?_))
    · clear hb hk0
      rcases Nat.eq_zero_or_pos l.length with hz | hpos
      · obtain rfl : l = [] := List.eq_nil_of_length_eq_zero hz
        (repeat' (first | refine AW.seq ?_ | refine AW.scope ?_ | refine AW.label ?_ | refine AW.block ?_ | refine AW.skip ?_ | refine AW.exit ?_ | refine AW.ret ?_))
        (refine AW.regionC fun Q' Kn hQ hK hK' => ?_; (repeat simp (config := { maxSteps := 4000000 }) (disch := omega) only [go_sem, redN, Nat.reduceAdd, Int.reduceToNat, Int.reducePow]); (repeat' refine And.intro ?_ ?_); (try any_goals (first | (refine hK _ _ ?_; clear hK' hQ hK Q' Kn) | (intro hq9; refine ⟨hq9, ?_⟩; simp only [redB] at hq9; omega) | (intro hq9; refine ⟨hq9, fun hq8 => ?_⟩; rw [hq9, hq8]; rfl) | (simp; done) | omega | (simp only [redL]; omega) | (simp only [List.length_append, List.length_cons, List.length_nil, intsE_length, wdsE_length]; omega) | (simp; omega) | (intros; (repeat' refine And.intro ?_ ?_) <;> (first | assumption | omega | (simp; done))))))
        refine AOps.guard (g := false) rfl rfl rfl (by simp only [agd, go_sem]; simp) (fun h => by cases h) (fun _ => AOps.putMono (v' := .opt false (.bool true)) (fun κ cv h => VR_opt_false h) ?_)
        (refine AOpsC_ok hK' _ _ _ ?_; (repeat simp (config := { maxSteps := 4000000 }) (disch := omega) only [go_sem, redN, Nat.reduceAdd, Int.reduceToNat, Int.reducePow]); (repeat' refine And.intro ?_ ?_); (try any_goals (first | (refine hK _ _ ?_; clear hK' hQ hK Q' Kn) | (intro hq9; refine ⟨hq9, ?_⟩; simp only [redB] at hq9; omega) | (intro hq9; refine ⟨hq9, fun hq8 => ?_⟩; rw [hq9, hq8]; rfl) | (simp; done) | omega | (simp only [redL]; omega) | (simp only [List.length_append, List.length_cons, List.length_nil, intsE_length, wdsE_length]; omega) | (simp; omega) | (intros; (repeat' refine And.intro ?_ ?_) <;> (first | assumption | omega | (simp; done))))))
        (repeat' (first | refine AW.seq ?_ | refine AW.scope ?_ | refine AW.label ?_ | refine AW.block ?_ | refine AW.skip ?_ | refine AW.exit ?_ | refine AW.ret ?_))
        (refine AW.cond (by simp (config := { maxSteps := 4000000 }) (disch := omega) only [go_sem, redN, Nat.reduceAdd, Int.reduceToNat, Int.reducePow]; rfl) (fun hb => ?_) (fun hb => ?_) <;> (try simp only [redB] at hb))
        · exact absurd rfl (w4 hb.1 hb.2).1
        clear hb
        (repeat' (first | refine AW.seq ?_ | refine AW.scope ?_ | refine AW.label ?_ | refine AW.block ?_ | refine AW.skip ?_ | refine AW.exit ?_ | refine AW.ret ?_))
        (refine AW.regionC fun Q' Kn hQ hK hK' => ?_; (repeat simp (config := { maxSteps := 4000000 }) (disch := omega) only [go_sem, redN, Nat.reduceAdd, Int.reduceToNat, Int.reducePow]); (repeat' refine And.intro ?_ ?_); (try any_goals (first | (refine hK _ _ ?_; clear hK' hQ hK Q' Kn) | (intro hq9; refine ⟨hq9, ?_⟩; simp only [redB] at hq9; omega) | (intro hq9; refine ⟨hq9, fun hq8 => ?_⟩; rw [hq9, hq8]; rfl) | (simp; done) | omega | (simp only [redL]; omega) | (simp only [List.length_append, List.length_cons, List.length_nil, intsE_length, wdsE_length]; omega) | (simp; omega) | (intros; (repeat' refine And.intro ?_ ?_) <;> (first | assumption | omega | (simp; done))))))
        (repeat' (first | refine AW.seq ?_ | refine AW.scope ?_ | refine AW.label ?_ | refine AW.block ?_ | refine AW.skip ?_ | refine AW.exit ?_ | refine AW.ret ?_))
        (refine AW.cond (by simp (config := { maxSteps := 4000000 }) (disch := omega) only [go_sem, redN, Nat.reduceAdd, Int.reduceToNat, Int.reducePow]; rfl) (fun hb => ?_) (fun hb => ?_) <;> (try simp only [redB] at hb))
        · (repeat' (first | refine AW.seq ?_ | refine AW.scope ?_ | refine AW.label ?_ | refine AW.block ?_ | refine AW.skip ?_ | refine AW.exit ?_ | refine AW.ret ?_))
          (refine AW.regionC fun Q' Kn hQ hK hK' => ?_; (repeat simp (config := { maxSteps := 4000000 }) (disch := omega) only [go_sem, redN, Nat.reduceAdd, Int.reduceToNat, Int.reducePow]); (repeat' refine And.intro ?_ ?_); (try any_goals (first | (refine hK _ _ ?_; clear hK' hQ hK Q' Kn) | (intro hq9; refine ⟨hq9, ?_⟩; simp only [redB] at hq9; omega) | (intro hq9; refine ⟨hq9, fun hq8 => ?_⟩; rw [hq9, hq8]; rfl) | (simp; done) | omega | (simp only [redL]; omega) | (simp only [List.length_append, List.length_cons, List.length_nil, intsE_length, wdsE_length]; omega) | (simp; omega) | (intros; (repeat' refine And.intro ?_ ?_) <;> (first | assumption | omega | (simp; done))))))
          refine AOp.call rfl (by simp only [go_sem]; rfl) (by simp [go_sem]) rfl (ACalls.mono (by simp only [go_sem]; exact l_awake G _) ?_)
          rintro e σ7 ⟨h7, rfl⟩; subst σ7
          (refine AOpsC_ok hK' _ _ _ ?_; (repeat simp (config := { maxSteps := 4000000 }) (disch := omega) only [go_sem, redN, Nat.reduceAdd, Int.reduceToNat, Int.reducePow]); (repeat' refine And.intro ?_ ?_); (try any_goals (first | (refine hK _ _ ?_; clear hK' hQ hK Q' Kn) | (intro hq9; refine ⟨hq9, ?_⟩; simp only [redB] at hq9; omega) | (intro hq9; refine ⟨hq9, fun hq8 => ?_⟩; rw [hq9, hq8]; rfl) | (simp; done) | omega | (simp only [redL]; omega) | (simp only [List.length_append, List.length_cons, List.length_nil, intsE_length, wdsE_length]; omega) | (simp; omega) | (intros; (repeat' refine And.intro ?_ ?_) <;> (first | assumption | omega | (simp; done))))))
          (repeat' (first | refine AW.seq ?_ | refine AW.scope ?_ | refine AW.label ?_ | refine AW.block ?_ | refine AW.skip ?_ | refine AW.exit ?_ | refine AW.ret ?_))
          (refine ⟨_, _, rfl, by simp, ?_⟩; simp only [aTup, AA.get, List.getD_cons_zero, List.getD_cons_succ, true_and])
        obtain ⟨la, lb, ha, hlb, hab⟩ := w5 mid (by omega) (by omega)
        have hal : la.length + lb.length = 0 := by rw [← List.length_append, hab]; rfl
        (repeat' (first | refine AW.seq ?_ | refine AW.scope ?_ | refine AW.label ?_ | refine AW.block ?_ | refine AW.skip ?_ | refine AW.exit ?_ | refine AW.ret ?_))
        (refine AW.regionC fun Q' Kn hQ hK hK' => ?_; (repeat simp (config := { maxSteps := 4000000 }) (disch := omega) only [go_sem, redN, Nat.reduceAdd, Int.reduceToNat, Int.reducePow]); (repeat' refine And.intro ?_ ?_); (try any_goals (first | (refine hK _ _ ?_; clear hK' hQ hK Q' Kn) | (intro hq9; refine ⟨hq9, ?_⟩; simp only [redB] at hq9; omega) | (intro hq9; refine ⟨hq9, fun hq8 => ?_⟩; rw [hq9, hq8]; rfl) | (simp; done) | omega | (simp only [redL]; omega) | (simp only [List.length_append, List.length_cons, List.length_nil, intsE_length, wdsE_length]; omega) | (simp; omega) | (intros; (repeat' refine And.intro ?_ ?_) <;> (first | assumption | omega | (simp; done))))))
        refine AOp.call rfl (by simp only [go_sem]; rfl) (by simp [go_sem]) rfl (ACalls.mono (by simp only [go_sem]; exact t_TimesS G R start from_ mid 4100 h0 h1 hs0 hs1 hlm hld hlw hls la 0 ha _) ?_)
        rintro e σ7 ⟨v, hv, rfl⟩
        (refine AOpsC_ok hK' _ _ _ ?_; (repeat simp (config := { maxSteps := 4000000 }) (disch := omega) only [go_sem, redN, Nat.reduceAdd, Int.reduceToNat, Int.reducePow]); (repeat' refine And.intro ?_ ?_); (try any_goals (first | (refine hK _ _ ?_; clear hK' hQ hK Q' Kn) | (intro hq9; refine ⟨hq9, ?_⟩; simp only [redB] at hq9; omega) | (intro hq9; refine ⟨hq9, fun hq8 => ?_⟩; rw [hq9, hq8]; rfl) | (simp; done) | omega | (simp only [redL]; omega) | (simp only [List.length_append, List.length_cons, List.length_nil, intsE_length, wdsE_length]; omega) | (simp; omega) | (intros; (repeat' refine And.intro ?_ ?_) <;> (first | assumption | omega | (simp; done))))))
        rcases hv.own with ⟨rfl, _⟩ | ⟨ia, g, rfl, _⟩
        all_goals
          (try rw [intsE_length] at hv)
          (repeat' (first | refine AW.seq ?_ | refine AW.scope ?_ | refine AW.label ?_ | refine AW.block ?_ | refine AW.skip ?_ | refine AW.exit ?_ | refine AW.ret ?_))
          (refine AW.regionC fun Q' Kn hQ hK hK' => ?_; (repeat simp (config := { maxSteps := 4000000 }) (disch := omega) only [go_sem, redN, Nat.reduceAdd, Int.reduceToNat, Int.reducePow]); (repeat' refine And.intro ?_ ?_); (try any_goals (first | (refine hK _ _ ?_; clear hK' hQ hK Q' Kn) | (intro hq9; refine ⟨hq9, ?_⟩; simp only [redB] at hq9; omega) | (intro hq9; refine ⟨hq9, fun hq8 => ?_⟩; rw [hq9, hq8]; rfl) | (simp; done) | omega | (simp only [redL]; omega) | (simp only [List.length_append, List.length_cons, List.length_nil, intsE_length, wdsE_length]; omega) | (simp; omega) | (intros; (repeat' refine And.intro ?_ ?_) <;> (first | assumption | omega | (simp; done))))))
          refine AOp.call rfl (by simp only [go_sem]; rfl) (by simp [go_sem]) rfl (ACalls.mono (by simp only [go_sem]; exact t_TimesL G R start mid upto 4100 h0 h1 hs0 hs1 hlm hld hlw hls lb 0 hlb _) ?_)
          rintro e σ8 ⟨h8, rfl⟩; subst σ8
          (refine AOpsC_ok hK' _ _ _ ?_; (repeat simp (config := { maxSteps := 4000000 }) (disch := omega) only [go_sem, redN, Nat.reduceAdd, Int.reduceToNat, Int.reducePow]); (repeat' refine And.intro ?_ ?_); (try any_goals (first | (refine hK _ _ ?_; clear hK' hQ hK Q' Kn) | (intro hq9; refine ⟨hq9, ?_⟩; simp only [redB] at hq9; omega) | (intro hq9; refine ⟨hq9, fun hq8 => ?_⟩; rw [hq9, hq8]; rfl) | (simp; done) | omega | (simp only [redL]; omega) | (simp only [List.length_append, List.length_cons, List.length_nil, intsE_length, wdsE_length]; omega) | (simp; omega) | (intros; (repeat' refine And.intro ?_ ?_) <;> (first | assumption | omega | (simp; done))))))
          (repeat' (first | refine AW.seq ?_ | refine AW.scope ?_ | refine AW.label ?_ | refine AW.block ?_ | refine AW.skip ?_ | refine AW.exit ?_ | refine AW.ret ?_))
          (refine AW.regionC fun Q' Kn hQ hK hK' => ?_; (repeat simp (config := { maxSteps := 4000000 }) (disch := omega) only [go_sem, redN, Nat.reduceAdd, Int.reduceToNat, Int.reducePow]); (repeat' refine And.intro ?_ ?_); (try any_goals (first | (refine hK _ _ ?_; clear hK' hQ hK Q' Kn) | (intro hq9; refine ⟨hq9, ?_⟩; simp only [redB] at hq9; omega) | (intro hq9; refine ⟨hq9, fun hq8 => ?_⟩; rw [hq9, hq8]; rfl) | (simp; done) | omega | (simp only [redL]; omega) | (simp only [List.length_append, List.length_cons, List.length_nil, intsE_length, wdsE_length]; omega) | (simp; omega) | (intros; (repeat' refine And.intro ?_ ?_) <;> (first | assumption | omega | (simp; done))))))
          refine AOps.guard (g := true) rfl rfl rfl rfl (fun _ => ?_) (fun h => by cases h)
          refine AOp.appendT (e := 2) (sz := 1) (by_ := 8) (es := intsE la) (xs := intsE lb) rfl rfl (by simp [go_sem]) (by simp [go_sem]) rfl rfl rfl rfl (by decide) hv rfl (by intro e he c hc; obtain ⟨z, _, rfl⟩ := List.mem_map.1 he; simp at hc; subst hc; rfl) (by simp only [intsE_length]; omega) (by simp only [intsE_length, maxLen]; omega) fun v' σ' h9 => ?_
          (refine AOpsC_ok hK' _ _ _ ?_; (repeat simp (config := { maxSteps := 4000000 }) (disch := omega) only [go_sem, redN, Nat.reduceAdd, Int.reduceToNat, Int.reducePow]); (repeat' refine And.intro ?_ ?_); (try any_goals (first | (refine hK _ _ ?_; clear hK' hQ hK Q' Kn) | (intro hq9; refine ⟨hq9, ?_⟩; simp only [redB] at hq9; omega) | (intro hq9; refine ⟨hq9, fun hq8 => ?_⟩; rw [hq9, hq8]; rfl) | (simp; done) | omega | (simp only [redL]; omega) | (simp only [List.length_append, List.length_cons, List.length_nil, intsE_length, wdsE_length]; omega) | (simp; omega) | (intros; (repeat' refine And.intro ?_ ?_) <;> (first | assumption | omega | (simp; done))))))
          rw [← intsE_append, hab] at h9
          rcases h9.own with ⟨rfl, _⟩ | ⟨ib, g9, rfl, _⟩
          all_goals
            (try rw [intsE_length] at h9)
            (refine AOpsC_ok hK' _ _ _ ?_; (repeat simp (config := { maxSteps := 4000000 }) (disch := omega) only [go_sem, redN, Nat.reduceAdd, Int.reduceToNat, Int.reducePow]); (repeat' refine And.intro ?_ ?_); (try any_goals (first | (refine hK _ _ ?_; clear hK' hQ hK Q' Kn) | (intro hq9; refine ⟨hq9, ?_⟩; simp only [redB] at hq9; omega) | (intro hq9; refine ⟨hq9, fun hq8 => ?_⟩; rw [hq9, hq8]; rfl) | (simp; done) | omega | (simp only [redL]; omega) | (simp only [List.length_append, List.length_cons, List.length_nil, intsE_length, wdsE_length]; omega) | (simp; omega) | (intros; (repeat' refine And.intro ?_ ?_) <;> (first | assumption | omega | (simp; done))))))
            refine AOps.guard (g := true) rfl rfl rfl rfl (fun _ => ?_) (fun h => by cases h)
            refine AOp.call rfl (by simp only [go_sem]; rfl) (by simp [go_sem]) rfl (ACalls.mono (by simp only [go_sem]; exact ACalls.settle (β := st) (h9.sub (St.sub_refl st)) 1 (LLe.cons (h9.thL (St.sub_refl st) 0 (by intro e he c hc; rfl)) (LLe.cons (VLe.of_eq (th_tree _ _ _ _ _)) LLe.nil)) (t_Longs G ([] : List Int) ([] : List Int) (by simp only [List.length_nil]; omega) (by simp only [List.length_nil]; omega) st)) ?_)
            rintro e σ9 ⟨h10, rfl⟩; subst σ9
            (refine AOpsC_ok hK' _ _ _ ?_; (repeat simp (config := { maxSteps := 4000000 }) (disch := omega) only [go_sem, redN, Nat.reduceAdd, Int.reduceToNat, Int.reducePow]); (repeat' refine And.intro ?_ ?_); (try any_goals (first | (refine hK _ _ ?_; clear hK' hQ hK Q' Kn) | (intro hq9; refine ⟨hq9, ?_⟩; simp only [redB] at hq9; omega) | (intro hq9; refine ⟨hq9, fun hq8 => ?_⟩; rw [hq9, hq8]; rfl) | (simp; done) | omega | (simp only [redL]; omega) | (simp only [List.length_append, List.length_cons, List.length_nil, intsE_length, wdsE_length]; omega) | (simp; omega) | (intros; (repeat' refine And.intro ?_ ?_) <;> (first | assumption | omega | (simp; done))))))
            (try rw [show decide (([] : List Int) = ([] : List Int)) = true from decide_eq_true rfl])
            (refine AOpsC_ok hK' _ _ _ ?_; (repeat simp (config := { maxSteps := 4000000 }) (disch := omega) only [go_sem, redN, Nat.reduceAdd, Int.reduceToNat, Int.reducePow]); (repeat' refine And.intro ?_ ?_); (try any_goals (first | (refine hK _ _ ?_; clear hK' hQ hK Q' Kn) | (intro hq9; refine ⟨hq9, ?_⟩; simp only [redB] at hq9; omega) | (intro hq9; refine ⟨hq9, fun hq8 => ?_⟩; rw [hq9, hq8]; rfl) | (simp; done) | omega | (simp only [redL]; omega) | (simp only [List.length_append, List.length_cons, List.length_nil, intsE_length, wdsE_length]; omega) | (simp; omega) | (intros; (repeat' refine And.intro ?_ ?_) <;> (first | assumption | omega | (simp; done))))))
            refine AOps.guard_call (f := 7) (v := .bool true) rfl rfl rfl rfl rfl (fun _ => (by simp only [go_sem] <;> rfl)) (fun h => by first | (simp [go_sem]; done) | simpa [go_sem] using h) rfl (fun hg => by simp only [go_sem]; exact l_awake G _) ?_
            (refine AOpsC_ok hK' _ _ _ ?_; (repeat simp (config := { maxSteps := 4000000 }) (disch := omega) only [go_sem, redN, Nat.reduceAdd, Int.reduceToNat, Int.reducePow]); (repeat' refine And.intro ?_ ?_); (try any_goals (first | (refine hK _ _ ?_; clear hK' hQ hK Q' Kn) | (intro hq9; refine ⟨hq9, ?_⟩; simp only [redB] at hq9; omega) | (intro hq9; refine ⟨hq9, fun hq8 => ?_⟩; rw [hq9, hq8]; rfl) | (simp; done) | omega | (simp only [redL]; omega) | (simp only [List.length_append, List.length_cons, List.length_nil, intsE_length, wdsE_length]; omega) | (simp; omega) | (intros; (repeat' refine And.intro ?_ ?_) <;> (first | assumption | omega | (simp; done))))))
            (repeat' (first | refine AW.seq ?_ | refine AW.scope ?_ | refine AW.label ?_ | refine AW.block ?_ | refine AW.skip ?_ | refine AW.exit ?_ | refine AW.ret ?_))
            (refine ⟨_, _, rfl, by simp, ?_⟩; simp only [aTup, AA.get, List.getD_cons_zero, List.getD_cons_succ, true_and])
            rfl
      · (repeat' (first | refine AW.seq ?_ | refine AW.scope ?_ | refine AW.label ?_ | refine AW.block ?_ | refine AW.skip ?_ | refine AW.exit ?_ | refine AW.ret ?_))
        (refine AW.regionC fun Q' Kn hQ hK hK' => ?_; (repeat simp (config := { maxSteps := 4000000 }) (disch := omega) only [go_sem, redN, Nat.reduceAdd, Int.reduceToNat, Int.reducePow]); (repeat' refine And.intro ?_ ?_); (try any_goals (first | (refine hK _ _ ?_; clear hK' hQ hK Q' Kn) | (intro hq9; refine ⟨hq9, ?_⟩; simp only [redB] at hq9; omega) | (intro hq9; refine ⟨hq9, fun hq8 => ?_⟩; rw [hq9, hq8]; rfl) | (simp; done) | omega | (simp only [redL]; omega) | (simp only [List.length_append, List.length_cons, List.length_nil, intsE_length, wdsE_length]; omega) | (simp; omega) | (intros; (repeat' refine And.intro ?_ ?_) <;> (first | assumption | omega | (simp; done))))))
        (repeat' (first | refine AW.seq ?_ | refine AW.scope ?_ | refine AW.label ?_ | refine AW.block ?_ | refine AW.skip ?_ | refine AW.exit ?_ | refine AW.ret ?_))
        (refine AW.cond (by simp (config := { maxSteps := 4000000 }) (disch := omega) only [go_sem, redN, Nat.reduceAdd, Int.reduceToNat, Int.reducePow]; rfl) (fun hb => ?_) (fun hb => ?_) <;> (try simp only [redB] at hb))
        · exfalso
          have h5 := w4 hb.1.1 hb.1.2
          rcases hb.2 with h | h
          · omega
          · exact h h5.2
        clear hb
        (repeat' (first | refine AW.seq ?_ | refine AW.scope ?_ | refine AW.label ?_ | refine AW.block ?_ | refine AW.skip ?_ | refine AW.exit ?_ | refine AW.ret ?_))
        (refine AW.regionC fun Q' Kn hQ hK hK' => ?_; (repeat simp (config := { maxSteps := 4000000 }) (disch := omega) only [go_sem, redN, Nat.reduceAdd, Int.reduceToNat, Int.reducePow]); (repeat' refine And.intro ?_ ?_); (try any_goals (first | (refine hK _ _ ?_; clear hK' hQ hK Q' Kn) | (intro hq9; refine ⟨hq9, ?_⟩; simp only [redB] at hq9; omega) | (intro hq9; refine ⟨hq9, fun hq8 => ?_⟩; rw [hq9, hq8]; rfl) | (simp; done) | omega | (simp only [redL]; omega) | (simp only [List.length_append, List.length_cons, List.length_nil, intsE_length, wdsE_length]; omega) | (simp; omega) | (intros; (repeat' refine And.intro ?_ ?_) <;> (first | assumption | omega | (simp; done))))))
        (repeat' (first | refine AW.seq ?_ | refine AW.scope ?_ | refine AW.label ?_ | refine AW.block ?_ | refine AW.skip ?_ | refine AW.exit ?_ | refine AW.ret ?_))
        (refine AW.cond (by simp (config := { maxSteps := 4000000 }) (disch := omega) only [go_sem, redN, Nat.reduceAdd, Int.reduceToNat, Int.reducePow]; rfl) (fun hb => ?_) (fun hb => ?_) <;> (try simp only [redB] at hb))
        · (repeat' (first | refine AW.seq ?_ | refine AW.scope ?_ | refine AW.label ?_ | refine AW.block ?_ | refine AW.skip ?_ | refine AW.exit ?_ | refine AW.ret ?_))
          (refine AW.regionC fun Q' Kn hQ hK hK' => ?_; (repeat simp (config := { maxSteps := 4000000 }) (disch := omega) only [go_sem, redN, Nat.reduceAdd, Int.reduceToNat, Int.reducePow]); (repeat' refine And.intro ?_ ?_); (try any_goals (first | (refine hK _ _ ?_; clear hK' hQ hK Q' Kn) | (intro hq9; refine ⟨hq9, ?_⟩; simp only [redB] at hq9; omega) | (intro hq9; refine ⟨hq9, fun hq8 => ?_⟩; rw [hq9, hq8]; rfl) | (simp; done) | omega | (simp only [redL]; omega) | (simp only [List.length_append, List.length_cons, List.length_nil, intsE_length, wdsE_length]; omega) | (simp; omega) | (intros; (repeat' refine And.intro ?_ ?_) <;> (first | assumption | omega | (simp; done))))))
          refine AOp.call rfl (by simp only [go_sem]; rfl) (by simp [go_sem]) rfl (ACalls.mono (by simp only [go_sem]; exact l_awake G _) ?_)
          rintro e σ7 ⟨h7, rfl⟩; subst σ7
          (refine AOpsC_ok hK' _ _ _ ?_; (repeat simp (config := { maxSteps := 4000000 }) (disch := omega) only [go_sem, redN, Nat.reduceAdd, Int.reduceToNat, Int.reducePow]); (repeat' refine And.intro ?_ ?_); (try any_goals (first | (refine hK _ _ ?_; clear hK' hQ hK Q' Kn) | (intro hq9; refine ⟨hq9, ?_⟩; simp only [redB] at hq9; omega) | (intro hq9; refine ⟨hq9, fun hq8 => ?_⟩; rw [hq9, hq8]; rfl) | (simp; done) | omega | (simp only [redL]; omega) | (simp only [List.length_append, List.length_cons, List.length_nil, intsE_length, wdsE_length]; omega) | (simp; omega) | (intros; (repeat' refine And.intro ?_ ?_) <;> (first | assumption | omega | (simp; done))))))
          (repeat' (first | refine AW.seq ?_ | refine AW.scope ?_ | refine AW.label ?_ | refine AW.block ?_ | refine AW.skip ?_ | refine AW.exit ?_ | refine AW.ret ?_))
          (refine ⟨_, _, rfl, by simp, ?_⟩; simp only [aTup, AA.get, List.getD_cons_zero, List.getD_cons_succ, true_and])
        obtain ⟨la, lb, ha, hlb, hab⟩ := w5 mid (by omega) (by omega)
        have hal : la.length + lb.length = l.length := by rw [← hab, List.length_append]
        (repeat' (first | refine AW.seq ?_ | refine AW.scope ?_ | refine AW.label ?_ | refine AW.block ?_ | refine AW.skip ?_ | refine AW.exit ?_ | refine AW.ret ?_))
        (refine AW.regionC fun Q' Kn hQ hK hK' => ?_; (repeat simp (config := { maxSteps := 4000000 }) (disch := omega) only [go_sem, redN, Nat.reduceAdd, Int.reduceToNat, Int.reducePow]); (repeat' refine And.intro ?_ ?_); (try any_goals (first | (refine hK _ _ ?_; clear hK' hQ hK Q' Kn) | (intro hq9; refine ⟨hq9, ?_⟩; simp only [redB] at hq9; omega) | (intro hq9; refine ⟨hq9, fun hq8 => ?_⟩; rw [hq9, hq8]; rfl) | (simp; done) | omega | (simp only [redL]; omega) | (simp only [List.length_append, List.length_cons, List.length_nil, intsE_length, wdsE_length]; omega) | (simp; omega) | (intros; (repeat' refine And.intro ?_ ?_) <;> (first | assumption | omega | (simp; done))))))
        refine AOp.call rfl (by simp only [go_sem]; rfl) (by simp [go_sem]) rfl (ACalls.mono (by simp only [go_sem]; exact t_TimesS G R start from_ mid 4100 h0 h1 hs0 hs1 hlm hld hlw hls la 0 ha _) ?_)
        rintro e σ7 ⟨v, hv, rfl⟩
        (refine AOpsC_ok hK' _ _ _ ?_; (repeat simp (config := { maxSteps := 4000000 }) (disch := omega) only [go_sem, redN, Nat.reduceAdd, Int.reduceToNat, Int.reducePow]); (repeat' refine And.intro ?_ ?_); (try any_goals (first | (refine hK _ _ ?_; clear hK' hQ hK Q' Kn) | (intro hq9; refine ⟨hq9, ?_⟩; simp only [redB] at hq9; omega) | (intro hq9; refine ⟨hq9, fun hq8 => ?_⟩; rw [hq9, hq8]; rfl) | (simp; done) | omega | (simp only [redL]; omega) | (simp only [List.length_append, List.length_cons, List.length_nil, intsE_length, wdsE_length]; omega) | (simp; omega) | (intros; (repeat' refine And.intro ?_ ?_) <;> (first | assumption | omega | (simp; done))))))
        rcases hv.own with ⟨rfl, _⟩ | ⟨ia, g, rfl, _⟩
        all_goals
          (try rw [intsE_length] at hv)
          (repeat' (first | refine AW.seq ?_ | refine AW.scope ?_ | refine AW.label ?_ | refine AW.block ?_ | refine AW.skip ?_ | refine AW.exit ?_ | refine AW.ret ?_))
          (refine AW.regionC fun Q' Kn hQ hK hK' => ?_; (repeat simp (config := { maxSteps := 4000000 }) (disch := omega) only [go_sem, redN, Nat.reduceAdd, Int.reduceToNat, Int.reducePow]); (repeat' refine And.intro ?_ ?_); (try any_goals (first | (refine hK _ _ ?_; clear hK' hQ hK Q' Kn) | (intro hq9; refine ⟨hq9, ?_⟩; simp only [redB] at hq9; omega) | (intro hq9; refine ⟨hq9, fun hq8 => ?_⟩; rw [hq9, hq8]; rfl) | (simp; done) | omega | (simp only [redL]; omega) | (simp only [List.length_append, List.length_cons, List.length_nil, intsE_length, wdsE_length]; omega) | (simp; omega) | (intros; (repeat' refine And.intro ?_ ?_) <;> (first | assumption | omega | (simp; done))))))
          refine AOp.call rfl (by simp only [go_sem]; rfl) (by simp [go_sem]) rfl (ACalls.mono (by simp only [go_sem]; exact t_TimesL G R start mid upto 4100 h0 h1 hs0 hs1 hlm hld hlw hls lb 0 hlb _) ?_)
          rintro e σ8 ⟨h8, rfl⟩; subst σ8
          (refine AOpsC_ok hK' _ _ _ ?_; (repeat simp (config := { maxSteps := 4000000 }) (disch := omega) only [go_sem, redN, Nat.reduceAdd, Int.reduceToNat, Int.reducePow]); (repeat' refine And.intro ?_ ?_); (try any_goals (first | (refine hK _ _ ?_; clear hK' hQ hK Q' Kn) | (intro hq9; refine ⟨hq9, ?_⟩; simp only [redB] at hq9; omega) | (intro hq9; refine ⟨hq9, fun hq8 => ?_⟩; rw [hq9, hq8]; rfl) | (simp; done) | omega | (simp only [redL]; omega) | (simp only [List.length_append, List.length_cons, List.length_nil, intsE_length, wdsE_length]; omega) | (simp; omega) | (intros; (repeat' refine And.intro ?_ ?_) <;> (first | assumption | omega | (simp; done))))))
          (repeat' (first | refine AW.seq ?_ | refine AW.scope ?_ | refine AW.label ?_ | refine AW.block ?_ | refine AW.skip ?_ | refine AW.exit ?_ | refine AW.ret ?_))
          (refine AW.regionC fun Q' Kn hQ hK hK' => ?_; (repeat simp (config := { maxSteps := 4000000 }) (disch := omega) only [go_sem, redN, Nat.reduceAdd, Int.reduceToNat, Int.reducePow]); (repeat' refine And.intro ?_ ?_); (try any_goals (first | (refine hK _ _ ?_; clear hK' hQ hK Q' Kn) | (intro hq9; refine ⟨hq9, ?_⟩; simp only [redB] at hq9; omega) | (intro hq9; refine ⟨hq9, fun hq8 => ?_⟩; rw [hq9, hq8]; rfl) | (simp; done) | omega | (simp only [redL]; omega) | (simp only [List.length_append, List.length_cons, List.length_nil, intsE_length, wdsE_length]; omega) | (simp; omega) | (intros; (repeat' refine And.intro ?_ ?_) <;> (first | assumption | omega | (simp; done))))))
          refine AOps.guard (g := true) rfl rfl rfl rfl (fun _ => ?_) (fun h => by cases h)
          refine AOp.appendT (e := 2) (sz := 1) (by_ := 8) (es := intsE la) (xs := intsE lb) rfl rfl (by simp [go_sem]) (by simp [go_sem]) rfl rfl rfl rfl (by decide) hv rfl (by intro e he c hc; obtain ⟨z, _, rfl⟩ := List.mem_map.1 he; simp at hc; subst hc; rfl) (by simp only [intsE_length]; omega) (by simp only [intsE_length, maxLen]; omega) fun v' σ' h9 => ?_
          (refine AOpsC_ok hK' _ _ _ ?_; (repeat simp (config := { maxSteps := 4000000 }) (disch := omega) only [go_sem, redN, Nat.reduceAdd, Int.reduceToNat, Int.reducePow]); (repeat' refine And.intro ?_ ?_); (try any_goals (first | (refine hK _ _ ?_; clear hK' hQ hK Q' Kn) | (intro hq9; refine ⟨hq9, ?_⟩; simp only [redB] at hq9; omega) | (intro hq9; refine ⟨hq9, fun hq8 => ?_⟩; rw [hq9, hq8]; rfl) | (simp; done) | omega | (simp only [redL]; omega) | (simp only [List.length_append, List.length_cons, List.length_nil, intsE_length, wdsE_length]; omega) | (simp; omega) | (intros; (repeat' refine And.intro ?_ ?_) <;> (first | assumption | omega | (simp; done))))))
          rw [← intsE_append, hab] at h9
          rcases h9.own with ⟨rfl, _⟩ | ⟨ib, g9, rfl, _⟩
          all_goals
            (try rw [intsE_length] at h9)
            (refine AOpsC_ok hK' _ _ _ ?_; (repeat simp (config := { maxSteps := 4000000 }) (disch := omega) only [go_sem, redN, Nat.reduceAdd, Int.reduceToNat, Int.reducePow]); (repeat' refine And.intro ?_ ?_); (try any_goals (first | (refine hK _ _ ?_; clear hK' hQ hK Q' Kn) | (intro hq9; refine ⟨hq9, ?_⟩; simp only [redB] at hq9; omega) | (intro hq9; refine ⟨hq9, fun hq8 => ?_⟩; rw [hq9, hq8]; rfl) | (simp; done) | omega | (simp only [redL]; omega) | (simp only [List.length_append, List.length_cons, List.length_nil, intsE_length, wdsE_length]; omega) | (simp; omega) | (intros; (repeat' refine And.intro ?_ ?_) <;> (first | assumption | omega | (simp; done))))))
            refine AOps.guard (g := true) rfl rfl rfl rfl (fun _ => ?_) (fun h => by cases h)
            refine AOp.call rfl (by simp only [go_sem]; rfl) (by simp [go_sem]) rfl (ACalls.mono (by simp only [go_sem]; exact ACalls.settle (β := st) (h9.sub (St.sub_refl st)) 1 (LLe.cons (h9.thL (St.sub_refl st) 0 (by intro e he c hc; rfl)) (LLe.cons (VLe.of_eq (th_tree _ _ _ _ _)) LLe.nil)) (t_Longs G l l (by omega) (by omega) st)) ?_)
            rintro e σ9 ⟨h10, rfl⟩; subst σ9
            (refine AOpsC_ok hK' _ _ _ ?_; (repeat simp (config := { maxSteps := 4000000 }) (disch := omega) only [go_sem, redN, Nat.reduceAdd, Int.reduceToNat, Int.reducePow]); (repeat' refine And.intro ?_ ?_); (try any_goals (first | (refine hK _ _ ?_; clear hK' hQ hK Q' Kn) | (intro hq9; refine ⟨hq9, ?_⟩; simp only [redB] at hq9; omega) | (intro hq9; refine ⟨hq9, fun hq8 => ?_⟩; rw [hq9, hq8]; rfl) | (simp; done) | omega | (simp only [redL]; omega) | (simp only [List.length_append, List.length_cons, List.length_nil, intsE_length, wdsE_length]; omega) | (simp; omega) | (intros; (repeat' refine And.intro ?_ ?_) <;> (first | assumption | omega | (simp; done))))))
            (try rw [show decide (l = l) = true from decide_eq_true rfl])
            (refine AOpsC_ok hK' _ _ _ ?_; (repeat simp (config := { maxSteps := 4000000 }) (disch := omega) only [go_sem, redN, Nat.reduceAdd, Int.reduceToNat, Int.reducePow]); (repeat' refine And.intro ?_ ?_); (try any_goals (first | (refine hK _ _ ?_; clear hK' hQ hK Q' Kn) | (intro hq9; refine ⟨hq9, ?_⟩; simp only [redB] at hq9; omega) | (intro hq9; refine ⟨hq9, fun hq8 => ?_⟩; rw [hq9, hq8]; rfl) | (simp; done) | omega | (simp only [redL]; omega) | (simp only [List.length_append, List.length_cons, List.length_nil, intsE_length, wdsE_length]; omega) | (simp; omega) | (intros; (repeat' refine And.intro ?_ ?_) <;> (first | assumption | omega | (simp; done))))))
            refine AOps.guard_call (f := 7) (v := .bool true) rfl rfl rfl rfl rfl (fun _ => (by simp only [go_sem] <;> rfl)) (fun h => by first | (simp [go_sem]; done) | simpa [go_sem] using h) rfl (fun hg => by simp only [go_sem]; exact l_awake G _) ?_
            (refine AOpsC_ok hK' _ _ _ ?_; (repeat simp (config := { maxSteps := 4000000 }) (disch := omega) only [go_sem, redN, Nat.reduceAdd, Int.reduceToNat, Int.reducePow]); (repeat' refine And.intro ?_ ?_); (try any_goals (first | (refine hK _ _ ?_; clear hK' hQ hK Q' Kn) | (intro hq9; refine ⟨hq9, ?_⟩; simp only [redB] at hq9; omega) | (intro hq9; refine ⟨hq9, fun hq8 => ?_⟩; rw [hq9, hq8]; rfl) | (simp; done) | omega | (simp only [redL]; omega) | (simp only [List.length_append, List.length_cons, List.length_nil, intsE_length, wdsE_length]; omega) | (simp; omega) | (intros; (repeat' refine And.intro ?_ ?_) <;> (first | assumption | omega | (simp; done))))))
            (repeat' (first | refine AW.seq ?_ | refine AW.scope ?_ | refine AW.label ?_ | refine AW.block ?_ | refine AW.skip ?_ | refine AW.exit ?_ | refine AW.ret ?_))
            (refine ⟨_, _, rfl, by simp, ?_⟩; simp only [aTup, AA.get, List.getD_cons_zero, List.getD_cons_succ, true_and])
            rfl
end Go.Almanac
