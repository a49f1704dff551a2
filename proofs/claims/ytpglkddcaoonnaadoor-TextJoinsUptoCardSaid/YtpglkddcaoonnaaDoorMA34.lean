/- THE ABSTRACT MEMORY (part 34): a guarded load, in the text's order. -/
import Derived.Test.YtpglkddcaoonnaaDoorM2
/- THE ABSTRACT MEMORY (part 34): a guarded load, in the text's order. -/
namespace Go.Abs
open Go.RowKit
set_option linter.unusedSectionVars false
set_option linter.unusedVariables false

section
variable {E : Env} {r : Option Nat} {Q : APost} {ops : Array Oper}

/-- A guarded load from a block that the walk owns: its value is there where the guard lets it. -/
theorem AOps.guard_loadCell {i : Nat} {rest : List Nat} {o : Oper} {a : AA} {st : St} {t t0 : TypeId} {x : Operand} {id g sz k f : Nat} {es : List (List AV)} {j d : Nat} {want gg : Bool} (hi : ops[i]? = some o) (hg : o.guard = some (j, want)) (hd : (ops[j]?).bind (·.dst) = some d) (hy : agd (a.get d) want = some gg)
    (ho : o.op = .load t x) (hx : gg = true → evU E a x = .ptr id g k f) (hcs : gg = true → evC E a x) (hst : st id = some (.cells t0 g sz es)) (hag : aggT E.P t = some false) (hk : gg = true → k < es.length) (hf : f < sz)
    (hk' : AOps E r ops Q rest (a.put ((ops[i]?).bind (·.dst)) (.opt gg ((es.getD k []).getD f .junk))) st) : AOps E r ops Q (i :: rest) a st := by
  rw [hi] at hk'
  refine AOps.guard hi hg hd hy (fun e => ?_) (fun e => by subst e; exact AOps.putMono (fun κ cv h => VR_opt_false h) hk')
  subst e
  exact AOp.loadCell ho (hx rfl) (hcs rfl) hst hag (hk rfl) hf (AOps.putMono (fun κ cv h => VR_opt_true h) hk')
end
end Go.Abs
