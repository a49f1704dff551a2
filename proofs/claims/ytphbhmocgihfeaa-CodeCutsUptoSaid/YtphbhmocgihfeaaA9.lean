/- THE ABSTRACT MEMORY (part 9): reading what the walk owns; calls; how a function is entered and left. -/
import Derived.Test.YtphbhmocgihfeaaA8
namespace Go.Abs
open Go.RowKit
set_option linter.unusedSectionVars false
set_option linter.unusedVariables false
set_option linter.unusedSimpArgs false

/-- A load from a block that the walk owns. -/
def aLoad (P : Program) (st : St) (t : TypeId) (x : AV) : PV :=
  match x with
  | .ptr id g i f =>
    match st id with
    | some (.cells g' sz es) =>
      match aggT P t, tsz P t with
      | some true, some n => some (g = g' ∧ i < es.length ∧ f + n ≤ sz, .agg (((es.getD i []).drop f).take n))
      | some false, _ => some (g = g' ∧ i < es.length ∧ f < sz, (es.getD i []).getD f .junk)
      | _, _ => none
    | _ => none
  | _ => none

section
variable {E : Env} {κ : K} {st : St} {w : World} {a : AA} {act : Act}

theorem cell_of_cells {w : World} {b : Nat} {c : Array Value} {t : TypeId} {fr : Nat × Nat} (h : w.heap[b]? = some (.cells c t fr)) (o : Nat) : w.cell? ⟨b, o, none⟩ = c[o]? := by
  simp [World.cell?, h]

theorem aLoad_ok (hR : Rel E κ st w) {t : TypeId} {x : AV} {cx : Value} {c : Prop} {v : AV} (h : aLoad E.P st t x = some (c, v)) (hc : c) (hx : VR κ x cx) : Yields κ E.P (Instr.loadAt t cx) w v := by
  unfold aLoad at h
  split at h <;> first | cases h | skip
  rename_i id g i f
  split at h <;> first | cases h | skip
  rename_i g' sz es hst
  obtain ⟨L, hL, hB, _, _⟩ := hR.dom id _ hst
  obtain ⟨e1, e2, hl, hm, cc, ct, fr, hh, hsz, hfr, hE⟩ := hB
  simp only [VR] at hx
  obtain ⟨ad, L', rfl, hL', hg, ha⟩ := hx
  rw [hL] at hL'; cases hL'
  split at h <;> first | cases h | skip
  · rename_i n hag hn
    obtain ⟨rfl, hi, hf⟩ := hc
    have ha' := ha e1
    obtain ⟨q1, q2⟩ := VRE_get hE hi
    have q3 := VRF_take n (VRF_drop f q2 (by omega))
    obtain ⟨vs, h1, h2, h3⟩ := VRF_read q3
    have hlen : vs.length = n := by rw [h1, List.length_take, List.length_drop]; omega
    refine ⟨.agg vs.toArray, ?_, by simp only [VR]; exact ⟨_, rfl, h2⟩⟩
    have := run_loadCells_list (P := E.P) w ad vs (fun j v hv => by
      rw [ha', addr_add, cell_of_cells hh, ← h3 j v hv, e2]; congr 1; omega)
    rw [hlen] at this
    simp [Instr.loadAt, Instr.sureAddr, loadVar, run_agg hag, run_sz hn, this]
  · rename_i hag
    obtain ⟨rfl, hi, hf⟩ := hc
    have ha' := ha e1
    obtain ⟨q1, q2⟩ := VRE_get hE hi
    obtain ⟨v, h1, h2⟩ := VRF_get q2 (i := f) (by omega)
    have : w.cell? ad = some v := by rw [ha', cell_of_cells hh, ← h1, e2]; congr 1; omega
    exact ⟨v, by simp [Instr.loadAt, Instr.sureAddr, loadVar, run_agg hag, this], h2⟩

/-- Code that the machine may enter. -/
def hasBody (P : Program) (f : FuncId) : Bool :=
  match P.funcs[f]? with
  | some fn => fn.body.isSome && !(fn.name == "runtime.NumGoroutine")
  | none => false

theorem run_callFunc {P : Program} {f : FuncId} (h : hasBody P f = true) (args : Array Value) (w : World) : (callFunc f args).run P w = .ok (.enter f args) w := by
  unfold hasBody at h
  split at h
  · rename_i fn hf
    simp only [Bool.and_eq_true, Bool.not_eq_true'] at h
    obtain ⟨hb, hn⟩ := h
    cases hbody : fn.body with
    | none => simp [hbody] at hb
    | some c => simp [callFunc, hf, by simpa using hn, hbody]
  · cases h

/-- THE CALL of a function or a closure. -/
theorem AOp.call {r : Option Nat} {o : Oper} {Kn : ANext} {Q : APost} {x : Operand} {f : FuncId} {fi ca : List AV} {args : Array Operand} {tys : Array TypeId}
    (ho : o.op = .call { callee := .value x, args := args, argTypes := tys }) (hx : evU E a x = .clo (.func f) fi ca) (hcs : evCs E a (x :: args.toList)) (hb : hasBody E.P f = true)
    (h : ACalls E f (fi ++ args.toList.map (evU E a) ++ ca) st fun e st' => match e with | .ret v => Kn (a.put o.dst v) st' | .panic v => Q (.panic v) a st') : AOp E r o Kn Q a st := by
  intro κ w act rd hR hA hr
  refine ⟨fun _ _ => trivial, ?_⟩
  have hd : ∀ c, o.op ≠ .defer c := fun c => by rw [ho]; simp
  rw [semAt_of hd]
  have hv := unO_ok (hA.ev hR x) hcs.1
  rw [show unO (a.ev E x) = evU E a x from rfl, hx] at hv
  simp only [VR] at hv
  obtain ⟨cfi, cca, hxe, hfi, hca⟩ := hv
  have hargs := evsC_ok hR hA args.toList hcs.2
  have hrun : (execOp act.eval o).run E.P w = .ok (.enter f (cfi ++ args.map act.eval ++ cca)) w := by
    simp [execOp, ho, resolve, hxe, Deferred.ofValue, invoke, run_callFunc hb]
  rw [hrun]
  refine ⟨fun h => by simp [Fence.wide] at h, ?_⟩
  refine CallsIn.mono (h κ w _ hR (by simpa using VRs_append (VRs_append hfi hargs) hca)) ?_
  rintro e w' ⟨κ', x', st', hle, hR', he, hq⟩
  cases x' with
  | ret v =>
    obtain ⟨cv, rfl, hcv⟩ := he
    exact ⟨κ', _, st', hle, hR', (hA.mono hle).put o.dst hcv, hq⟩
  | panic v =>
    obtain ⟨cv, rfl, hcv⟩ := he
    exact ⟨κ', .panic v, a, st', hle, hR', hA.mono hle, ⟨cv, rfl, hcv⟩, hq⟩

/-! ### Results, and how a function is left -/

def aRes1 (P : Program) (a : AA) (st : St) : ResultVar → PV
  | .tmp t => some (True, a.get t)
  | .cell x t => aLoad P st t (a.get x)
def aRess (P : Program) (a : AA) (st : St) : List ResultVar → Option (Prop × List AV)
  | [] => some (True, [])
  | r :: rs =>
    match aRes1 P a st r, aRess P a st rs with
    | some (c, v), some (d, vs) => some (c ∧ d, v :: vs)
    | _, _ => none
def aTup : List AV → AV
  | [v] => v
  | vs => .tup vs

def rd1 (tmps : Array Value) (r : ResultVar) : Sem Value :=
  match r with
  | .tmp t => pure (tmps.getD t undef)
  | .cell x t => do loadVar t (← asAddr (tmps.getD x undef))
theorem results_eq (fn : Func) (tmps : Array Value) : results fn tmps = (do let vs ← fn.results.mapM (rd1 tmps); pure (if h : vs.size = 1 then vs[0] else .tuple vs) : Sem Value) := rfl

theorem aRess_ok (hR : Rel E κ st w) (hA : AR κ a act) : ∀ (rs : List ResultVar) {c : Prop} {vs : List AV}, aRess E.P a st rs = some (c, vs) → c →
    ∃ cvs : List Value, (rs.mapM (rd1 act.tmps)).run E.P w = .ok cvs w ∧ VRs κ vs cvs
  | [], c, vs, h, hc => by simp only [aRess, Option.some.injEq, Prod.mk.injEq] at h; obtain ⟨_, rfl⟩ := h; exact ⟨[], by simp, by simp [VRs]⟩
  | r :: rs, c, vs, h, hc => by
    simp only [aRess] at h
    split at h <;> first | cases h | skip
    rename_i c1 v1 d1 vs1 h1 h2
    obtain ⟨hc1, hc2⟩ := hc
    obtain ⟨cvs, hr, hv⟩ := aRess_ok hR hA rs h2 hc2
    cases r with
    | tmp t =>
      simp only [aRes1, Option.some.injEq, Prod.mk.injEq] at h1
      obtain ⟨_, rfl⟩ := h1
      exact ⟨act.tmps.getD t undef :: cvs, by simp only [List.mapM_cons, Sem.run_bind, Sem.run_pure, Result.andThen, rd1, hr], by simp only [VRs]; exact ⟨_, _, rfl, hA.ev hR (.tmp t), hv⟩⟩
    | cell x t =>
      simp only [aRes1] at h1
      have hx := hA.ev hR (.tmp x)
      obtain ⟨cv, hl, hcv⟩ := aLoad_ok hR h1 hc1 hx
      have hp : ∃ ad, act.tmps.getD x undef = .pointer (some ad) := by
        have hx2 : VR κ (a.get x) (act.tmps.getD x undef) := hx
        unfold aLoad at h1
        split at h1 <;> first | cases h1 | skip
        rename_i heq
        rw [heq] at hx2
        simp only [VR] at hx2
        obtain ⟨ad, L, e, _⟩ := hx2
        exact ⟨ad, e⟩
      obtain ⟨ad, hp⟩ := hp
      have hl2 : (loadVar t ad).run E.P w = .ok cv w := by
        have : act.eval (.tmp x) = .pointer (some ad) := hp
        rw [this] at hl
        simpa [Instr.loadAt, Instr.sureAddr] using hl
      exact ⟨cv :: cvs, by simp only [List.mapM_cons, Sem.run_bind, Sem.run_pure, Result.andThen, rd1, hp, asAddr, hl2, hr], by simp only [VRs]; exact ⟨_, _, rfl, hcv, hv⟩⟩

theorem results_ok (hR : Rel E κ st w) (hA : AR κ a act) {fn : Func} {c : Prop} {vs : List AV} (h : aRess E.P a st fn.results.toList = some (c, vs)) (hc : c) :
    ∃ cv, (results fn act.tmps).run E.P w = .ok cv w ∧ VR κ (aTup vs) cv := by
  obtain ⟨cvs, hr, hv⟩ := aRess_ok hR hA _ h hc
  have hlen := VRs_len hv
  rw [results_eq]
  simp only [Array.mapM_eq_mapM_toList, Sem.run_bind, Sem.run_map, hr, Result.andThen]
  by_cases h1 : cvs.length = 1
  · obtain ⟨u, rfl⟩ := List.length_eq_one_iff.1 h1
    obtain ⟨v, rfl⟩ := List.length_eq_one_iff.1 (hlen.symm.trans h1)
    simp only [VRs] at hv
    obtain ⟨_, _, e, hv, _⟩ := hv
    cases e
    exact ⟨u, by simp, by simpa [aTup] using hv⟩
  · refine ⟨.tuple cvs.toArray, by simp [h1], ?_⟩
    have : aTup vs = .tup vs := by
      match vs, hlen with
      | [], _ => rfl
      | [v], hl => simp at hl; omega
      | _ :: _ :: _, _ => rfl
    rw [this]
    simp only [VR]
    exact ⟨_, rfl, by simpa using hv⟩

end
end Go.Abs
