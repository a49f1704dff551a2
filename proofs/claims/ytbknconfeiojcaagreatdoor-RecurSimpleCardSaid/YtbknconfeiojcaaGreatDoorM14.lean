/- Recurrence: the document's good days, all of it. -/
import Derived.Test.YtbknconfeiojcaaGreatDoorM8
import Derived.Test.YtbknconfeiojcaaGreatDoorM4
set_option linter.unusedSimpArgs false
set_option linter.unusedVariables false
set_option linter.unusedSectionVars false
set_option maxRecDepth 10000
set_option maxHeartbeats 1000000
/- Recurrence: the document's small steps. -/
/-STEPS-/
namespace Go.Almanac
open Go.RowKit Go.Proofs Go.Abs
def rowE (R : RuleD) (f secs y m d : Int) : List AV := encR R ++ [.int .i64 f, .int .i64 secs, .int .i64 y, .int .i64 m, .int .i64 d]
section
variable (R : RuleD) (f secs y m d : Int)
theorem rowE_length : (rowE R f secs y m d).length = 17 := rfl
theorem rowE_take : List.take 12 (rowE R f secs y m d) = encR R := rfl
theorem rowE_take17 : List.take 17 (rowE R f secs y m d) = rowE R f secs y m d := rfl
theorem rw_0 : (rowE R f secs y m d).getD 0 AV.junk = .int .i64 R.freq := rfl
theorem rw_1 : (List.drop 1 (rowE R f secs y m d)).getD 0 AV.junk = .int .i64 R.interval := rfl
theorem rw_2 : (List.drop 2 (rowE R f secs y m d)).getD 0 AV.junk = .int .i64 R.count := rfl
theorem rw_3 : (List.drop 3 (rowE R f secs y m d)).getD 0 AV.junk = .bool R.has := rfl
theorem rw_4 : (List.drop 4 (rowE R f secs y m d)).getD 0 AV.junk = .int .i64 R.secs := rfl
theorem rw_5 : (List.drop 5 (rowE R f secs y m d)).getD 0 AV.junk = .bool R.utc := rfl
theorem rw_6 : (List.drop 6 (rowE R f secs y m d)).getD 0 AV.junk = .bool R.date := rfl
theorem rw_7 : (List.drop 7 (rowE R f secs y m d)).getD 0 AV.junk = .tree 1 (intsE R.byMonth) := rfl
theorem rw_8 : (List.drop 8 (rowE R f secs y m d)).getD 0 AV.junk = .tree 1 (intsE R.byMonthDay) := rfl
theorem rw_9 : (List.drop 9 (rowE R f secs y m d)).getD 0 AV.junk = .tree 2 (wdsE R.byDay) := rfl
theorem rw_10 : (List.drop 10 (rowE R f secs y m d)).getD 0 AV.junk = .tree 1 (intsE R.bySetPos) := rfl
theorem rw_11 : (List.drop 11 (rowE R f secs y m d)).getD 0 AV.junk = .int .i64 R.wkst := rfl
theorem rw_12 : (List.drop 12 (rowE R f secs y m d)).getD 0 AV.junk = .int .i64 f := rfl
theorem rw_13 : (List.drop 13 (rowE R f secs y m d)).getD 0 AV.junk = .int .i64 secs := rfl
theorem rw_14 : (List.drop 14 (rowE R f secs y m d)).getD 0 AV.junk = .int .i64 y := rfl
theorem rw_15 : (List.drop 15 (rowE R f secs y m d)).getD 0 AV.junk = .int .i64 m := rfl
theorem rw_16 : (List.drop 16 (rowE R f secs y m d)).getD 0 AV.junk = .int .i64 d := rfl
end
attribute [go_sem] rowE_length rowE_take rowE_take17 rw_0 rw_1 rw_2 rw_3 rw_4 rw_5 rw_6 rw_7 rw_8 rw_9 rw_10 rw_11 rw_12 rw_13 rw_14 rw_15 rw_16
theorem any_take {p : Int → Bool} {l : List Int} {k : Nat} (hk : k < l.length) (h : (l.take k).any p = false) : (l.take (k + 1)).any p = p (l.getD k 0) := by
  rw [List.take_succ_eq_append_getElem hk, List.any_append, h]
  simp [List.getD, List.getElem?_eq_getElem hk]
theorem any_ofK {p : Int → Bool} {l : List Int} {k : Nat} (hk : k < l.length) (h : p (l.getD k 0) = true) : l.any p = true := by
  rw [List.any_eq_true]
  exact ⟨l.getD k 0, by simp [List.getD, List.getElem?_eq_getElem hk], h⟩
end Go.Almanac

/- Recurrence: where the document begins, and its periods. -/
/-STEPS-/
namespace Go.Almanac
open Go.RowKit Go.Proofs Go.Abs
end Go.Almanac

/- Recurrence: the document's good days. -/
/-STEPS-/
namespace Go.Almanac
open Go.RowKit Go.Proofs Go.Abs
theorem any_takeW {p : Int × Int → Bool} {l : List (Int × Int)} {k : Nat} (hk : k < l.length) (h : (l.take k).any p = false) : (l.take (k + 1)).any p = p (l.getD k (0, 0)) := by
  rw [List.take_succ_eq_append_getElem hk, List.any_append, h]
  simp [List.getD, List.getElem?_eq_getElem hk]
theorem any_ofW {p : Int × Int → Bool} {l : List (Int × Int)} {k : Nat} (hk : k < l.length) (h : p (l.getD k (0, 0)) = true) : l.any p = true := by
  rw [List.any_eq_true]
  exact ⟨l.getD k (0, 0), by simp [List.getD, List.getElem?_eq_getElem hk], h⟩
end Go.Almanac

/- Recurrence: the document's good days, all of it. -/
/-STEPS-/
namespace Go.Almanac
open Go.RowKit Go.Proofs Go.Abs
end Go.Almanac
