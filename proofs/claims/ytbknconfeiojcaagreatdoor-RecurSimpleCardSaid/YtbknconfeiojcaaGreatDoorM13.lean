/- Recurrence: what windows tell. -/
import Derived.Test.YtbknconfeiojcaaGreatDoorM11
set_option linter.unusedSimpArgs false
set_option linter.unusedVariables false
set_option linter.unusedSectionVars false
set_option maxRecDepth 10000
set_option maxHeartbeats 1000000
/- Recurrence: how many occurrences there can be. -/
namespace Go.Almanac
open Go.RowKit Go.Proofs Go.Abs
theorem roundF_len (R : RuleD) (start secs : Int) : ∀ (ds l : List Int), (roundF R start secs ds l).1.length ≤ l.length + ds.length
  | [], l => by simp [roundF]
  | d :: ds, l => by
    rw [roundF]
    split
    · have := roundF_len R start secs ds l; simp only [List.length_cons]; omega
    · split
      · simp only [List.length_cons]; omega
      · have := roundF_len R start secs ds (l ++ [d * 86400 + secs]); simp only [List.length_append, List.length_cons, List.length_nil] at this ⊢; omega
theorem goF_len (R : RuleD) (start upto f secs y m d0 : Int) : ∀ (n : Nat) (k : Int) (l : List Int), (goF R start upto f secs y m d0 n k l).1.length ≤ l.length + n * 400
  | 0, k, l => by
    rw [goF]
    split <;> simp
  | n + 1, k, l => by
    by_cases h : fullF R l = true ∨ stopF R f y m upto k = true
    · rw [goF_stop R start upto f secs y m d0 h]; dsimp only; omega
    · rw [goF_next R start upto f secs y m d0 h]
      have hs : stopF R f y m upto k = false := by
        cases hx : stopF R f y m upto k with
        | false => rfl
        | true => exact absurd (.inr hx) h
      have hpn := period_n R (stop_ok hs)
      have h1 := roundF_len R start secs (pickF R (poolF R f m d0 (periodF R f y m k).1 (periodF R f y m k).2.1.toNat)) l
      have h2 := pick_len R f m d0 (periodF R f y m k).1 (periodF R f y m k).2.1.toNat
      split
      · dsimp only; omega
      · have h3 := goF_len R start upto f secs y m d0 n (k + 1) (roundF R start secs (pickF R (poolF R f m d0 (periodF R f y m k).1 (periodF R f y m k).2.1.toNat)) l).1
        omega
theorem allF_len (R : RuleD) (start upto : Int) : (allF R start upto).1.length ≤ 1600001 := by
  have := goF_len R start upto (start / 86400) (start % 86400) (civ (start / 86400)).1 (civ (start / 86400)).2.1 (civ (start / 86400)).2.2.1 4000 0 [start]
  simpa [allF] using this
end Go.Almanac

/- Recurrence: the occurrences rise, at start's second of the day; what a nearer end tells. -/
namespace Go.Almanac
open Go.RowKit Go.Proofs Go.Abs
theorem first_step {a b : Int} (h : a ≤ b) : first a ≤ first b := by simp only [first]; omega
theorem days_ok1J (y m : Int) : (days y m 1).2 = decide (1 ≤ mlen y m) := by
  unfold days
  split
  · rename_i h; exact (decide_eq_false (by omega)).symm
  · rename_i h; exact (decide_eq_true (by omega)).symm
theorem month_at {y m : Int} (h : (days y m 1).2 = true) : 1 ≤ y ∧ y ≤ 9999 ∧ 1 ≤ m ∧ m ≤ 12 ∧ (days y m 1).1 = first y + psum y (m - 1).toNat ∧ (days y m 1).1 + mlen y m = first y + psum y m.toNat := by
  rw [days_ok1J] at h
  have h1 : 1 ≤ mlen y m := by simpa using h
  have hv := mlen_pos (y := y) (m := m) (by omega)
  have e1 : (days y m 1).1 = first y + psum y (m - 1).toNat + 1 - 1 := by unfold days; rw [if_neg (by omega)]
  have e2 : psum y m.toNat = psum y (m - 1).toNat + mlen y m := by
    rw [mlen_get (by omega) (by omega), show m.toNat = (m - 1).toNat + 1 by omega]; rfl
  refine ⟨by omega, by omega, by omega, by omega, by omega, by omega⟩
theorem period_step (R : RuleD) {f y m k : Int} (hi : 1 ≤ R.interval) (hw : True) (h1 : (periodF R f y m k).2.2 = true) (h2 : (periodF R f y m (k + 1)).2.2 = true) :
    (periodF R f y m k).1 + (periodF R f y m k).2.1 ≤ (periodF R f y m (k + 1)).1 := by
  have hk : (k + 1) * R.interval = k * R.interval + R.interval := by rw [Int.add_mul, Int.one_mul]
  unfold periodF at h1 h2 ⊢
  rw [hk] at h2 ⊢
  generalize k * R.interval = a at *
  generalize R.interval = i at *
  by_cases f1 : R.freq = 1
  · simp only [if_pos f1] at *; omega
  · by_cases f2 : R.freq = 2
    · simp only [if_neg f1, if_pos f2] at *; omega
    · by_cases f3 : R.freq = 3
      · simp only [if_neg f1, if_neg f2, if_pos f3] at *
        obtain ⟨q1, q2, q3, q4, q5, q6⟩ := month_at h1
        obtain ⟨p1, p2, p3, p4, p5, p6⟩ := month_at h2
        rw [q6, p5]
        generalize hI : y * 12 + m - 1 + a = I at *
        rw [show y * 12 + m - 1 + (a + i) = I + i by omega] at *
        by_cases hy : I / 12 = (I + i) / 12
        · rw [← hy]
          have := psum_mono (I / 12) (j := (I % 12 + 1).toNat) (k := ((I + i) % 12 + 1 - 1).toNat) (by omega)
          omega
        · have g1 := psum_mono (I / 12) (j := (I % 12 + 1).toNat) (k := 12) (by omega)
          have g2 := first_next q1
          have g3 := first_step (show I / 12 + 1 ≤ (I + i) / 12 by omega)
          have g4 := (psum_bounds ((I + i) / 12) ((I + i) % 12 + 1 - 1).toNat).1
          omega
      · simp only [if_neg f1, if_neg f2, if_neg f3] at *
        obtain ⟨q1, q2, _⟩ := month_at h1
        obtain ⟨p1, p2, _⟩ := month_at h2
        obtain ⟨e1, e2, _⟩ := year_first q1 q2
        obtain ⟨e3, _⟩ := year_first p1 p2
        have g3 := first_step (show y + a + 1 ≤ y + (a + i) by omega)
        omega
theorem pool_up (R : RuleD) (f m0 d0 s : Int) (n : Nat) : (poolF R f m0 d0 s n).Pairwise (· < ·) := by
  unfold poolF
  refine List.Pairwise.filter _ ?_
  rw [List.pairwise_map]
  exact List.pairwise_lt_range.imp fun h => by omega
theorem pick_up {R : RuleD} {l : List Int} (h : l.Pairwise (· < ·)) : (pickF R l).Pairwise (· < ·) := by
  unfold pickF
  rw [List.pairwise_map]
  refine (List.Pairwise.filter _ List.pairwise_lt_range).imp_of_mem fun {a b} ha hb hab => ?_
  have h1 := List.mem_range.1 (List.mem_filter.1 ha).1
  have h2 := List.mem_range.1 (List.mem_filter.1 hb).1
  have := List.pairwise_iff_getElem.1 h a b h1 h2 hab
  simpa [List.getD, List.getElem?_eq_getElem h1, List.getElem?_eq_getElem h2] using this
theorem round_app (R : RuleD) (start secs : Int) : ∀ (ds l : List Int), ds.Pairwise (· < ·) → ∃ more, (roundF R start secs ds l).1 = l ++ more ∧ more.Pairwise (· < ·) ∧ ∀ x ∈ more, start < x ∧ ∃ d ∈ ds, x = d * 86400 + secs
  | [], l, _ => ⟨[], by simp [roundF]⟩
  | d :: ds, l, h => by
    rw [List.pairwise_cons] at h
    rw [roundF]
    split
    · obtain ⟨more, e1, e2, e3⟩ := round_app R start secs ds l h.2
      refine ⟨more, e1, e2, fun x hx => ?_⟩
      obtain ⟨g1, d', g2, g3⟩ := e3 x hx
      exact ⟨g1, d', by simp [g2], g3⟩
    · rename_i hc
      split
      · exact ⟨[], by simp⟩
      · obtain ⟨more, e1, e2, e3⟩ := round_app R start secs ds (l ++ [d * 86400 + secs]) h.2
        refine ⟨(d * 86400 + secs) :: more, by rw [e1]; simp, ?_, fun x hx => ?_⟩
        · rw [List.pairwise_cons]
          refine ⟨fun x hx => ?_, e2⟩
          obtain ⟨_, d', g2, g3⟩ := e3 x hx
          have := h.1 d' g2
          omega
        · rcases List.mem_cons.1 hx with rfl | hx
          · exact ⟨by omega, d, by simp, rfl⟩
          · obtain ⟨g1, d', g2, g3⟩ := e3 x hx
            exact ⟨g1, d', by simp [g2], g3⟩
section
variable (R : RuleD) (start f secs y m d0 : Int) (hi : 1 ≤ R.interval)
include hi
theorem go_app (upto : Int) : ∀ (n : Nat) (k : Int) (l : List Int), ∃ more, (goF R start upto f secs y m d0 n k l).1 = l ++ more ∧ more.Pairwise (· < ·) ∧
    ∀ x ∈ more, (periodF R f y m k).2.2 = true ∧ start < x ∧ ∃ d, x = d * 86400 + secs ∧ (periodF R f y m k).1 ≤ d
  | 0, k, l => by
    rw [goF]
    split <;> exact ⟨[], by simp⟩
  | n + 1, k, l => by
    rw [goF]
    split
    · exact ⟨[], by simp⟩
    rename_i hs
    have hok : (periodF R f y m k).2.2 = true := by
      cases hx : (periodF R f y m k).2.2
      · exact absurd (.inr (.inl (by rw [hx]; decide))) hs
      · rfl
    obtain ⟨m1, a1, a2, a3⟩ := round_app R start secs (pickF R (poolF R f m d0 (periodF R f y m k).1 (periodF R f y m k).2.1.toNat)) l (pick_up (pool_up R f m d0 _ _))
    have a4 : ∀ x ∈ m1, start < x ∧ ∃ d, x = d * 86400 + secs ∧ (periodF R f y m k).1 ≤ d ∧ d < (periodF R f y m k).1 + (periodF R f y m k).2.1 := fun x hx => by
      obtain ⟨g1, d, g2, g3⟩ := a3 x hx
      obtain ⟨g4, g5⟩ := pick_mem g2
      exact ⟨g1, d, g3, g4, by omega⟩
    split
    · refine ⟨m1, a1, a2, fun x hx => ?_⟩
      obtain ⟨g1, d, g2, g3, _⟩ := a4 x hx
      exact ⟨hok, g1, d, g2, g3⟩
    · obtain ⟨m2, b1, b2, b3⟩ := go_app upto n (k + 1) (roundF R start secs (pickF R (poolF R f m d0 (periodF R f y m k).1 (periodF R f y m k).2.1.toNat)) l).1
      refine ⟨m1 ++ m2, by rw [b1, a1, List.append_assoc], ?_, fun x hx => ?_⟩
      · rw [List.pairwise_append]
        refine ⟨a2, b2, fun x hx z hz => ?_⟩
        obtain ⟨_, d, g2, g3, g4⟩ := a4 x hx
        obtain ⟨p1, p2, d', p3, p4⟩ := b3 z hz
        have := period_step R hi trivial hok p1
        omega
      · rcases List.mem_append.1 hx with hx | hx
        · obtain ⟨g1, d, g2, g3, _⟩ := a4 x hx
          exact ⟨hok, g1, d, g2, g3⟩
        · obtain ⟨p1, p2, d', p3, p4⟩ := b3 x hx
          have := period_step R hi trivial hok p1
          have hn := (period_n R hok).1
          exact ⟨hok, p2, d', p3, by omega⟩
end
end Go.Almanac

/- Recurrence: what windows tell. -/
namespace Go.Almanac
open Go.RowKit Go.Proofs Go.Abs
theorem all_app (R : RuleD) (start upto : Int) (hi : 1 ≤ R.interval) : ∃ more, (allF R start upto).1 = start :: more ∧ (start :: more).Pairwise (· < ·) ∧ ∀ x ∈ start :: more, x % 86400 = start % 86400 := by
  obtain ⟨more, e1, e2, e3⟩ := go_app R start (start / 86400) (start % 86400) (civ (start / 86400)).1 (civ (start / 86400)).2.1 (civ (start / 86400)).2.2.1 hi upto 4000 0 [start]
  refine ⟨more, e1, ?_, fun x hx => ?_⟩
  · rw [List.pairwise_cons]
    exact ⟨fun x hx => (e3 x hx).2.1, e2⟩
  · rcases List.mem_cons.1 hx with rfl | hx
    · rfl
    · obtain ⟨_, _, d, rfl, _⟩ := e3 x hx
      omega
end Go.Almanac
