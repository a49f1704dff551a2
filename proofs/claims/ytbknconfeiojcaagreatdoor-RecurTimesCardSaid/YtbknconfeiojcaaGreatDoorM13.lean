/- Recurrence: how many occurrences there can be. -/
import Derived.Test.YtbknconfeiojcaaGreatDoorM11
set_option linter.unusedSimpArgs false
set_option linter.unusedVariables false
set_option linter.unusedSectionVars false
set_option maxRecDepth 10000
set_option maxHeartbeats 1000000
/- Recurrence: how many occurrences there can be. -/
namespace Go.Almanac
open Go.RowKit Go.Proofs Go.Abs
theorem roundF_len (R : RuleD) (start secs : Int) : ∀ (ds l : List Int), (roundF R start secs ds l).1.length ≤ l.length + ds.length
  | [], l => by simp [roundF]
  | d :: ds, l => by
    rw [roundF]
    split
    · have := roundF_len R start secs ds l; simp only [List.length_cons]; omega
    · split
      · simp only [List.length_cons]; omega
      · have := roundF_len R start secs ds (l ++ [d * 86400 + secs]); simp only [List.length_append, List.length_cons, List.length_nil] at this ⊢; omega
theorem timesF_len {R : RuleD} {start from_ upto most : Int} {l : List Int} {er : Int} (hn : (cutF from_ upto (allF R start upto).1).length ≤ 9223372036854775807) (hT : timesF R start from_ upto most = (l, er)) : l.length ≤ 9223372036854775807 := by
  unfold timesF at hT
  by_cases a : inT start = false
  · rw [if_pos a] at hT; cases hT; simp
  · rw [if_neg a] at hT
    by_cases b : fitR R = false
    · rw [if_pos b] at hT; cases hT; simp
    · rw [if_neg b] at hT
      by_cases c : (allF R start upto).2 = false ∨ (if most < 0 then 0 else most) < ((cutF from_ upto (allF R start upto).1).length : Int)
      · rw [if_pos c] at hT; cases hT; simp
      · rw [if_neg c] at hT; cases hT; exact hn
theorem goF_len (R : RuleD) (start upto f secs y m d0 : Int) : ∀ (n : Nat) (k : Int) (l : List Int), (goF R start upto f secs y m d0 n k l).1.length ≤ l.length + n * 400
  | 0, k, l => by
    rw [goF]
    split <;> simp
  | n + 1, k, l => by
    by_cases h : fullF R l = true ∨ stopF R f y m upto k = true
    · rw [goF_stop R start upto f secs y m d0 h]; dsimp only; omega
    · rw [goF_next R start upto f secs y m d0 h]
      have hs : stopF R f y m upto k = false := by
        cases hx : stopF R f y m upto k with
        | false => rfl
        | true => exact absurd (.inr hx) h
      have hpn := period_n R (stop_ok hs)
      have h1 := roundF_len R start secs (pickF R (poolF R f m d0 (periodF R f y m k).1 (periodF R f y m k).2.1.toNat)) l
      have h2 := pick_len R f m d0 (periodF R f y m k).1 (periodF R f y m k).2.1.toNat
      split
      · dsimp only; omega
      · have h3 := goF_len R start upto f secs y m d0 n (k + 1) (roundF R start secs (pickF R (poolF R f m d0 (periodF R f y m k).1 (periodF R f y m k).2.1.toNat)) l).1
        omega
theorem allF_len (R : RuleD) (start upto : Int) : (allF R start upto).1.length ≤ 1600001 := by
  have := goF_len R start upto (start / 86400) (start % 86400) (civ (start / 86400)).1 (civ (start / 86400)).2.1 (civ (start / 86400)).2.2.1 4000 0 [start]
  simpa [allF] using this
end Go.Almanac
