/- THE ABSTRACT MEMORY (part 20): a round, by what it keeps. -/
import Derived.Test.YtphbhmocgihfeaaA19
namespace Go.Abs
open Go.RowKit
set_option linter.unusedSectionVars false

attribute [go_sem] aEq Int.natCast_zero Int.cast_ofNat_Int Bool.and_true Bool.true_and Bool.or_true Bool.true_or Bool.and_false Bool.false_and Bool.or_false Bool.false_or Bool.not_true Bool.not_false eq_self true_implies false_implies

section
variable {E : Env} {st : St} {a : AA} {r : Option Nat} {Q : APost} {Kn : ANext} {o : Oper}

theorem ARound.mono {l : Nat} {K1 K2 : AV → St → Prop} (h : ∀ v st, K1 v st → K2 v st) (x : AExit) (a : AA) (st : St) (hx : ARound l K1 x a st) : ARound l K2 x a st := by
  simp only [ARound] at hx ⊢
  split at hx
  · split at hx <;> first | exact h _ _ hx | exact hx
  · exact hx

theorem ARound.normal {l : Nat} {Kn : AV → St → Prop} {a : AA} {st : St} {s p fn tm ps asg body d} (h : st l = some (.loop s p fn tm ps asg body d)) (hk : Kn (.bool true) (st.set l (.loop .ready none fn tm ps asg body d))) : ARound l Kn .normal a st := by
  simp only [ARound, h]; exact hk

theorem AOp.yieldI {x : Operand} {args : Array Operand} {tys : Array TypeId} {l : Nat} {s : LoopState} {pend : Option Code} {fn : FuncId} {tm : List AV} {ps : Array Tmp} {assign body : Code} {d : Nat} (I : AV → St → Prop)
    (ho : o.op = .call { callee := .value x, args := args, argTypes := tys }) (hx : evU E a x = .yld l) (hcs : evCs E a (x :: args.toList)) (hl : st l = some (.loop s pend fn tm ps assign body d)) (hps : args.size = ps.size)
    (hk : ∀ v st', I v st' → Kn (a.put o.dst v) st')
    (h : AW E (some l) assign (AThen (fun a1 st1 => ∃ pend fn tm ps assign' body' d, st1 l = some (.loop .ready pend fn tm ps assign' body' d) ∧
        AW E (some l) body (ARound l I) a1 (st1.set l (.loop .busy pend fn tm ps assign' body' d))) (fun _ _ _ => False))
      { tm := bindTm tm ps.toList (args.toList.map (evU E a)), ds := [] } st) : AOp E r o Kn Q a st := by
  refine AOp.yield ho hx hcs hl hps (AW.mono h ?_)
  intro x a1 st1 hq
  cases x <;> try exact hq
  obtain ⟨pend, fn, tm, ps, assign', body', d, h1, h2⟩ := hq
  exact ⟨pend, fn, tm, ps, assign', body', d, h1, AW.mono h2 (ARound.mono hk)⟩

/-- A slice that the walk owns whole, or nil. -/
def OwnS (st : St) (sz : Nat) (v : AV) (es : List (List AV)) (ok : Nat → Prop) : Prop :=
  (v = .nils ∧ es = []) ∨ ∃ id g, v = .arr id g sz 0 es.length ∧ st id = some (.cells g sz es) ∧ ok id

/-- 'append' onto such a slice: all else stays. -/
theorem AOp.appendO {t e : TypeId} {x y : Operand} {sz by_ : Nat} {es xs : List (List AV)} {ok : Nat → Prop} {v : AV} (ho : o.op = .call { callee := .builtin .append, args := #[x, y], argTypes := #[t, t] })
    (hcs : evCs E a [x, y]) (ht : E.P.underlying t = some (.slice e)) (hz : tsz E.P e = some sz) (hzz : hasZero E.P e = some sz) (hb : tby E.P e = some by_) (hpos : 0 < sz)
    (hs : evU E a x = v) (hown : OwnS st sz v es ok) (hy : aElems st (evU E a y) = some xs) (hys : aSz (evU E a y) = some sz) (hone : ∀ e ∈ xs, ∀ c ∈ e, isCell c = true)
    (hlim : (es.length + xs.length) * by_ ≤ 140737488355328) (hlim2 : es.length + xs.length ≤ maxLen)
    (hfr : ∀ id, st id = none → ok id)
    (hk : ∀ v' id b, (st id = none ∨ ok id) → v' ≠ .junk → OwnS (st.set id b) sz v' (es ++ xs) ok → Kn (a.put o.dst v') (st.set id b)) (hne : xs ≠ []) : AOp E r o Kn Q a st := by
  rcases hown with ⟨rfl, rfl⟩ | ⟨id, g, rfl, h1, h2⟩
  · refine AOp.append_nil ho hcs ht hz hzz hb hpos hs hy hys hone (by simpa using hlim) (by simpa using hlim2) (fun e => absurd e hne) fun _ id hid => ?_
    exact hk _ id _ (.inl hid) (by simp) (.inr ⟨id, 0, by simp, by simp [St.set], hfr id hid⟩)
  · refine AOp.append ho hcs ht hz hzz hb hpos hs h1 rfl hy hys hone hlim hlim2 ?_
    exact hk _ id _ (.inr h2) (by simp) (.inr ⟨id, g + 1, by simp, by simp [St.set], h2⟩)
end
end Go.Abs
