/- THE ABSTRACT MEMORY (part 5): what each operation that only reckons yields is what the machine yields. -/
import Derived.Test.YtphbhmocgihfeaaA4
namespace Go.Abs
open Go.RowKit
set_option linter.unusedSectionVars false
set_option linter.unusedVariables false
set_option linter.unusedSimpArgs false

section
variable {κ : K} {w : World} {P : Program}

/-- The run of s yields what v stands for, and leaves the world alone. -/
def Yields (κ : K) (P : Program) (s : Sem Value) (w : World) (v : AV) : Prop := ∃ cv, s.run P w = .ok cv w ∧ VR κ v cv

def ngd (a b : Value) : Bool := match a, b with | .nilIface, .nilIface => false | .agg _, .agg _ => false | _, _ => true
theorem eqGuard_int (op : BinOp) (t : TypeId) (ox oy : Operand) (a b : Value) (h : ngd a b = true) :
    (eqGuard op t ox oy a b).run P w = .ok () w := by
  unfold eqGuard
  cases op <;> cases a <;> cases b <;> simp_all [ngd]

theorem aInt_ok {op : BinOp} {k k' : IntKind} {a b : Int} {c : Prop} {v : AV} (hk : isShift op = true ∨ k = k') (h : aInt op k a b = some (c, v)) (hc : c) (t : TypeId) :
    Yields κ P (Go.binOp op t (.int k a) (.int k' b)) w v := by
  cases op <;> simp only [aInt, Option.some.injEq, Prod.mk.injEq] at h <;> obtain ⟨rfl, rfl⟩ := h <;> simp only [isShift, Bool.false_eq_true, false_or, true_or] at hk
  case shl => exact ⟨_, by simp [Go.binOp, Op.shift, show ¬ b < 0 from by omega]; rfl, by simp [VR]⟩
  case shr => exact ⟨_, by simp [Go.binOp, Op.shift, show ¬ b < 0 from by omega]; rfl, by simp [VR]⟩
  case quo => subst hk; exact ⟨_, by simp [Go.binOp, Op.intDiv, show ¬ b = 0 from hc]; rfl, by simp [VR]⟩
  case rem => subst hk; exact ⟨_, by simp [Go.binOp, Op.intDiv, show ¬ b = 0 from hc]; rfl, by simp [VR]⟩
  all_goals subst hk; exact ⟨_, by simp [Go.binOp, Op.intArith, Op.intBits, Op.intCmp]; rfl, by simp [VR, ibits]⟩

theorem aStr_ok {op : BinOp} {a b : List UInt8} {c : Prop} {v : AV} (h : aStr op a b = some (c, v)) (hc : c) (t : TypeId) :
    Yields κ P (Go.binOp op t (.string ⟨a.toArray⟩) (.string ⟨b.toArray⟩)) w v := by
  cases op <;> simp only [aStr, Option.some.injEq, Prod.mk.injEq, reduceCtorEq] at h <;> obtain ⟨rfl, rfl⟩ := h
  case add =>
    refine ⟨.string (⟨a.toArray⟩ ++ ⟨b.toArray⟩), ?_, ?_⟩
    · have h9 : IntKind.i64.max = 9223372036854775807 := by decide
      simp [Go.binOp, Op.stringOp, ByteArray.size, h9]
      omega
    · simp only [VR, Value.string.injEq]
      have : ∀ x y : ByteArray, x.data.toList = y.data.toList → x = y := fun x y e => by cases x; cases y; simp at e; simp [e]
      apply this
      rw [Joins.data_append]
  all_goals exact ⟨_, by simp [Go.binOp, Op.stringOp]; rfl, by simp [VR]⟩

theorem VR_int {k : IntKind} {n : Int} {cv : Value} : VR κ (.int k n) cv ↔ cv = .int k n := by simp [VR]
theorem VR_bool {b : Bool} {cv : Value} : VR κ (.bool b) cv ↔ cv = .bool b := by simp [VR]
theorem VR_str {s : List UInt8} {cv : Value} : VR κ (.str s) cv ↔ cv = .string ⟨s.toArray⟩ := by simp [VR]

theorem aBin_ok {op : BinOp} {x y : AV} {cx cy : Value} {c : Prop} {v : AV} (h : aBin op x y = some (c, v)) (hc : c) (hx : VR κ x cx) (hy : VR κ y cy) (t : TypeId) (ox oy : Operand) :
    Yields κ P (do eqGuard op t ox oy cx cy; Go.binOp op t cx cy) w v := by
  unfold aBin at h
  split at h
  · rename_i k a k' b
    simp only [VR] at hx hy
    subst hx; subst hy
    split at h
    · rename_i hk
      obtain ⟨cv, hr, hv⟩ := aInt_ok (κ := κ) (P := P) (w := w) hk h hc t
      exact ⟨cv, by rw [Sem.run_bind, eqGuard_int op t ox oy _ _ rfl]; exact hr, hv⟩
    · cases h
  · simp only [VR] at hx hy
    subst hx; subst hy
    obtain ⟨cv, hr, hv⟩ := aStr_ok (κ := κ) (P := P) (w := w) h hc t
    exact ⟨cv, by rw [Sem.run_bind, eqGuard_int op t ox oy _ _ rfl]; exact hr, hv⟩
  · cases h

theorem equalIn_ok {t : TypeId} {x y : AV} {cx cy : Value} {b : Bool} (h : aEq P t x y = some b) (hx : VR κ x cx) (hy : VR κ y cy) :
    (Op.equal t cx cy).run P w = .ok b w ∧ ngd cx cy = true ∧
    (∀ op, op = .eql ∨ op = .neq → Go.binOp op t cx cy = (if op = .eql then (do pure (.bool (← Op.equal t cx cy))) else (do pure (.bool (!(← Op.equal t cx cy)))) : Sem Value)) := by
  unfold aEq at h
  split at h <;> first | cases h | skip
  all_goals (rename_i hu; simp only [VR] at hx hy)
  all_goals first
    | (obtain ⟨_, _, rfl, _⟩ := hx; subst hy)
    | (obtain ⟨_, _, rfl, _⟩ := hy; subst hx)
    | (obtain ⟨_, _, _, rfl, _⟩ := hx; subst hy)
    | (obtain ⟨_, _, _, rfl, _⟩ := hy; subst hx)
    | (obtain ⟨_, rfl, _⟩ := hx; subst hy)
    | (obtain ⟨_, rfl, _⟩ := hy; subst hx)
    | (obtain ⟨_, _, _, rfl, _⟩ := hx; subst hy)
    | (obtain ⟨_, _, _, rfl, _⟩ := hy; subst hx)
    | (subst hx; subst hy)
  all_goals refine ⟨?_, rfl, ?_⟩
  all_goals first
    | (rintro op (rfl | rfl) <;> rfl)
    | (rw [Op.equal, show Op.maxDepth = Nat.succ 9999 from rfl, Op.equalIn]; simp [run_underlying hu])

end
end Go.Abs
