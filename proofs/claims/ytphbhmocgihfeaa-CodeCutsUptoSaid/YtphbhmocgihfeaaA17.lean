/- THE ABSTRACT MEMORY (part 17): the statement 'for .. := range f'. -/
import Derived.Test.YtphbhmocgihfeaaA16
namespace Go.Abs
open Go.RowKit
set_option linter.unusedSectionVars false
set_option linter.unusedVariables false
set_option linter.unusedSimpArgs false

section
variable {E : Env} {κ : K} {st : St} {w : World} {a : AA} {act : Act} {r : Option Nat} {Q : APost} {Kn : ANext} {o : Oper}

/-- What is asked when the function that was ranged over has ended. -/
def ARange (E : Env) (r : Option Nat) (l : Nat) (Q : APost) (a : AA) (x : AEnd) (st' : St) : Prop :=
  match x with
  | .panic v => Q (.panic v) a st'
  | .ret _ =>
    match st' l with
    | some (.loop s pend _ _ _ _ _ _) => s ≠ .busy ∧
      match pend with
      | none => Q .normal a (st'.del l)
      | some c => AW E r c Q a (st'.del l)
    | _ => False

theorem VR_yld {κ : K} {id : Nat} {L : Loc} (h : κ.loc id = some L) : VR κ (.yld id) (.func (.yield L.b) #[] #[]) := by
  simp only [VR]; exact ⟨L, L.b, h, rfl, fun _ => rfl⟩

theorem rangePost_ok {lp : Nat} {L : Loc} {a' : AA} {act' : Act} {rd : Option Nat} {κ0 : K} (hle0 : K.Le κ0 κ) (hL : κ.loc lp = some L) (hg : L.gen = 0) (hA : AR κ a' act') (hr : RdR κ r rd) {e : Ending} {w' : World} (hu : upE E κ (fun x st' => ARange E r lp Q a' x st') e w') :
    rangePost (Fr rd) 0 E.P L.b (upX E κ0 Q) act' e w' := by
  obtain ⟨κ1, x, st1, hle, hR1, he, hq⟩ := hu
  cases x with
  | panic v =>
    obtain ⟨cv, rfl, hv⟩ := he
    exact ⟨κ1, .panic v, a', st1, hle0.trans hle, hR1, hA.mono hle, ⟨cv, rfl, hv⟩, hq⟩
  | ret v =>
    obtain ⟨cv, rfl, hv⟩ := he
    simp only [ARange] at hq
    split at hq
    · rename_i s pend fn tm ps assign body d hl
      obtain ⟨hbusy, hq⟩ := hq
      obtain ⟨L1, hL1, hB1, _, _⟩ := hR1.dom lp _ hl
      obtain ⟨Lx, hLx, _, hgen, _⟩ := hle.loc lp L hL
      rw [hL1] at hLx; cases hLx
      obtain ⟨hg1, tmps1, db1, htm1, hget1, hheap1, hmk1⟩ := BR_loop (E := E) hB1
      have hLL : L1 = L := hgen (by omega)
      subst hLL
      obtain ⟨hR2, hK2⟩ := hR1.setObj hl hL1 (.loop { state := .exhausted, pending := pend, fn := fn, tmps := tmps1, params := ps, assign := assign, body := body, defers := db1 })
        (B := .loop .exhausted pend fn tm ps assign body d) (fun κ' hle hloc => hmk1 κ' _ _ _ hle hloc (by
          have := (Array.getElem?_eq_some_iff.1 hheap1).1
          simp [Array.getElem?_setIfInBounds, this]))
      have hR3 := hR2.forget (st' := st1.del lp) (fun id B hB => by
        simp only [St.del] at hB
        split at hB
        · cases hB
        · rename_i hne; rw [St.set_ne _ _ hne]; exact hB)
      have hle2 := hle.trans hK2
      refine ⟨pend, _, by
        have hb' : (s == LoopState.busy) = false := by simpa using hbusy
        simp only [Instr.endLoop, Sem.run_bind, hget1, Result.andThen, hb', Bool.false_eq_true, if_false, run_setObj' hheap1 (fun _ _ _ h => by cases h)]; rfl, ?_⟩
      cases pend with
      | none => exact ⟨_, .normal, a', _, hle0.trans hle2, hR3, hA.mono hle2, rfl, hq⟩
      | some c => exact wpIn_mono (hq _ _ act' rd hR3 (hA.mono hle2) (hr.mono hle2)) fun _ _ _ hu => upX_le (hle0.trans hle2) (fun _ _ _ h => h) hu
    · exact hq.elim

/-- 'for .. := range f', outside rounds. -/
theorem AW.rangeFunc {g : Operand} {ps : Array Tmp} {assign body : Code} {f : FuncId} {fi ca : List AV} (hg : evU E a g = .clo (.func f) fi ca) (hcs : evC E a g) (hb : hasBody E.P f = true)
    (h : ∀ d l fn, st d = none → st l = none → l ≠ d → ACalls E f (fi ++ [.yld l] ++ ca) ((st.set d (.dfr true)).set l (.loop .ready none fn a.tm ps assign body d)) (ARange E none l Q { a with ds := .collected d :: a.ds })) :
    AW E none (.rangeFunc g ps assign body) Q a st := by
  intro κ w act rd hR hA hr
  simp only [RdR] at hr
  subst hr
  refine wpIn_rangeFunc fun fn _ => ?_
  have hv := unO_ok (hA.ev hR g) hcs
  rw [show unO (a.ev E g) = evU E a g from rfl, hg] at hv
  simp only [VR] at hv
  obtain ⟨cfi, cca, hge, hfi, hca⟩ := hv
  obtain ⟨d, hd1, hd2⟩ := hR.fresh
  obtain ⟨hR1, hK1⟩ := hR.alloc (g := 0) (cap := 0) (sz := 0) hd1 (o := .deferred (some [])) (B := .dfr true) ⟨rfl, by simpa using heap_alloc_new w _⟩
  obtain ⟨l, hl1, hl2⟩ := hR1.fresh
  have hld : l ≠ d := fun e => by subst e; rw [K.set_same] at hl1; cases hl1
  have hstl : st l = none := by rw [St.set_ne _ _ hld] at hl2; exact hl2
  let w1 := w.alloc (.deferred (some []))
  have hK2 : K.Le (κ.set d ⟨0, w.heap.size, 0, 0⟩) ((κ.set d ⟨0, w.heap.size, 0, 0⟩).set l ⟨0, w1.heap.size, 0, 0⟩) := K.le_set fun L0 h0 => by rw [hl1] at h0; cases h0
  obtain ⟨hR2, _⟩ := hR1.alloc (g := 0) (cap := 0) (sz := 0) hl1 (o := .loop { state := .ready, pending := none, fn, tmps := act.tmps, params := ps, assign, body, defers := w.heap.size }) (B := .loop .ready none fn a.tm ps assign body d)
    ⟨rfl, act.tmps, ⟨0, w.heap.size, 0, 0⟩, w.heap.size, VRs.mono (hK1.trans hK2) _ _ hA.t, by rw [K.set_ne _ _ (Ne.symm hld)]; simp, fun _ => rfl, heap_alloc_new w1 _⟩
  have hK := hK1.trans hK2
  have hyl := VR_yld (κ := (κ.set d ⟨0, w.heap.size, 0, 0⟩).set l ⟨0, w1.heap.size, 0, 0⟩) (id := l) (K.set_same _ _ _)
  have hargs : VRs ((κ.set d ⟨0, w.heap.size, 0, 0⟩).set l ⟨0, w1.heap.size, 0, 0⟩) (fi ++ [.yld l] ++ ca) (cfi ++ #[Value.func (.yield w1.heap.size) #[] #[]] ++ cca).toList := by
    have q1 : VRs ((κ.set d ⟨0, w.heap.size, 0, 0⟩).set l ⟨0, w1.heap.size, 0, 0⟩) [.yld l] [Value.func (.yield w1.heap.size) #[] #[]] := by
      simp only [VRs]; exact ⟨_, _, rfl, hyl, rfl⟩
    simpa using VRs_append (VRs_append (VRs.mono hK _ _ hfi) q1) (VRs.mono hK _ _ hca)
  have hcall := h d l fn hd2 hstl hld _ _ _ hR2 hargs
  refine ⟨w1.heap.size, [{ target := .collected w.heap.size, args := #[] }], (w1.alloc (.loop { state := .ready, pending := none, fn, tmps := act.tmps, params := ps, assign, body, defers := w.heap.size })),
    { target := .fn (.func f) cca, args := cfi ++ #[Value.func (.yield w1.heap.size) #[] #[]] }, (w1.alloc (.loop { state := .ready, pending := none, fn, tmps := act.tmps, params := ps, assign, body, defers := w.heap.size })), f, _, _, ?_, ?_, fun _ _ => trivial, ?_, fun h => by simp [Fence.wide] at h, CallsIn.mono hcall ?_⟩
  · rfl
  · have : (resolve act.eval (rangeCall g w1.heap.size) 0) = Deferred.ofValue (act.eval g) #[Value.func (.yield w1.heap.size) #[] #[]] := by
      simp [rangeCall, resolve, Act.eval]
    rw [this, hge]
    rfl
  · exact run_callFunc hb _ _
  · intro e w' hu
    refine rangePost_ok (r := none) (rd := none) (a' := { a with ds := .collected d :: a.ds }) (act' := { act with defers := [{ target := .collected w.heap.size, args := #[] }] ++ act.defers }) (κ0 := κ) (L := ⟨0, w1.heap.size, 0, 0⟩) hK (K.set_same _ _ _) rfl ⟨VRs.mono hK _ _ hA.t, ?_⟩ rfl hu
    refine ⟨_, _, rfl, ?_, (hA.mono hK).d⟩
    exact ⟨⟨0, w.heap.size, 0, 0⟩, w.heap.size, by rw [K.set_ne _ _ (Ne.symm hld)]; simp, rfl, fun _ => rfl⟩

end
end Go.Abs
