/- THE ABSTRACT MEMORY (part 16): a range over a function; its rounds. -/
import Derived.Test.YtphbhmocgihfeaaA15
import Derived.RangeFuncRecord
namespace Go.Abs
open Go.RowKit
set_option linter.unusedSectionVars false
set_option linter.unusedVariables false
set_option linter.unusedSimpArgs false

def St.del (st : St) (id : Nat) : St := fun i => if i = id then none else st i
theorem St.del_ne (st : St) {id i : Nat} (h : i ≠ id) : st.del id i = st i := by simp [St.del, h]
theorem St.del_sub (st : St) (id : Nat) : (st.del id).sub st := fun i b h => by
  simp only [St.del] at h
  split at h
  · cases h
  · exact h
theorem St.del_set (st : St) {id : Nat} (b : Blk) (h : st id = none) : (st.set id b).del id = st := by
  funext i
  simp only [St.del, St.set]
  split
  · rename_i e; subst e; exact h.symm
  · rfl

section
variable {E : Env} {κ : K} {st : St} {w : World} {a : AA} {act : Act} {r : Option Nat} {Q : APost} {Kn : ANext} {o : Oper}

theorem Rel.setObj (hR : Rel E κ st w) {id : Nat} {B0 B : Blk} {L : Loc} (hst : st id = some B0) (hL : κ.loc id = some L) (o : Obj)
    (hB : ∀ κ', K.Le κ κ' → κ'.loc = κ.loc → BR κ' { w with heap := w.heap.setIfInBounds L.b o } L B) : Rel E (κ.set id L) (st.set id B) { w with heap := w.heap.setIfInBounds L.b o } ∧ K.Le κ (κ.set id L) := by
  obtain ⟨L', hL', _, ho, hlt⟩ := hR.dom id B0 hst
  rw [hL] at hL'; cases hL'
  have hgr : w.grownBy { w with heap := w.heap.setIfInBounds L.b o } (some L.b) :=
    ⟨rfl, rfl, rfl, by simp, fun k hk hne => by
      simp only [ne_eq, Option.some.injEq] at hne
      simp [Array.getElem?_setIfInBounds, Ne.symm hne]⟩
  have hle : ∀ L0, κ.loc id = some L0 → L0.gen ≤ L.gen ∧ (L.gen = L0.gen → L = L0) ∧ L.sz = L0.sz := fun L0 h0 => by rw [hL] at h0; cases h0; exact ⟨Nat.le_refl _, fun _ => rfl, rfl⟩
  have hK : K.Le κ (κ.set id L) := K.le_set hle
  refine ⟨hR.put hle hgr (hB _ hK ?_) (by simpa using hlt) (.inl ⟨L, by simp [hst], hL, rfl⟩), hK⟩
  funext i
  simp only [K.set]
  split
  · rename_i e; subst e; exact hL.symm
  · rfl

theorem RdR.round {l : Nat} {L : Loc} (hL : κ.loc l = some L) : RdR κ (some l) (some L.b) := ⟨L, L.b, hL, rfl, fun _ => rfl⟩

/-- How a round is left. -/
def ARound (l : Nat) (Kn : AV → St → Prop) : APost := fun x a st =>
  match st l with
  | some (.loop _ _ fn tm ps assign body d) =>
    match x with
    | .normal => Kn (.bool true) (st.set l (.loop .ready none fn tm ps assign body d))
    | .ret => Kn (.bool false) (st.set l (.loop .done (some .ret) fn tm ps assign body d))
    | .exit id => Kn (.bool false) (st.set l (.loop .done (some (.exit id)) fn tm ps assign body d))
    | .goto t => Kn (.bool false) (st.set l (.loop .done (some (.goto t)) fn tm ps assign body d))
    | .panic _ => False
  | _ => False

def bindTm : List AV → List Nat → List AV → List AV
  | tm, [], _ => tm
  | tm, _, [] => tm
  | tm, p :: ps, v :: vs => bindTm (tm.set p v) ps vs

theorem bindTm_ok : ∀ (ps : List Nat) (vs : List AV) (cvs : List Value) (tm : List AV) (tmps : Array Value), VRs κ vs cvs → VRs κ tm tmps.toList →
    VRs κ (bindTm tm ps vs) ((ps.zip cvs).foldl (fun tmps (t, a) => tmps.setIfInBounds t a) tmps).toList
  | [], vs, cvs, tm, tmps, _, h => by cases vs <;> simpa [bindTm] using h
  | p :: ps, [], cvs, tm, tmps, hv, h => by simp only [VRs] at hv; subst hv; simpa [bindTm] using h
  | p :: ps, v :: vs, cvs, tm, tmps, hv, h => by
    simp only [VRs] at hv
    obtain ⟨c, cs, rfl, h1, h2⟩ := hv
    simp only [bindTm, List.zip_cons_cons, List.foldl_cons]
    exact bindTm_ok ps vs cs _ _ h2 (by simpa using VRs_set h p h1)

theorem BR_loop {L : Loc} {s : LoopState} {pend : Option Code} {fn : FuncId} {tm : List AV} {ps : Array Tmp} {assign body : Code} {d : Nat} (hB : BR κ w L (.loop s pend fn tm ps assign body d)) :
    L.gen = 0 ∧ ∃ (tmps : Array Value) (b : Nat), VRs κ tm tmps.toList ∧ (Instr.getLoop L.b).run E.P w = .ok { state := s, pending := pend, fn, tmps, params := ps, assign, body, defers := b } w ∧
      w.heap[L.b]? = some (.loop { state := s, pending := pend, fn, tmps, params := ps, assign, body, defers := b }) ∧
      ∀ κ' w' s' pend', K.Le κ κ' → κ'.loc = κ.loc → w'.heap[L.b]? = some (.loop { state := s', pending := pend', fn, tmps, params := ps, assign, body, defers := b }) → BR κ' w' L (.loop s' pend' fn tm ps assign body d) := by
  obtain ⟨h1, tmps, D, b, h2, h3, h4, h5⟩ := hB
  refine ⟨h1, tmps, b, h2, ?_, h5, fun κ' w' s' pend' hle hloc hh => ⟨h1, tmps, D, b, VRs.mono hle _ _ h2, by rw [hloc]; exact h3, h4, hh⟩⟩
  simp [Instr.getLoop, getObj, Sem.run, h5]

theorem run_setObj' {P : Program} {b : Nat} {o o' : Obj} (h : w.heap[b]? = some o) (hc : ∀ c t fr, o ≠ .cells c t fr) : (setObj b o').run P w = .ok () { w with heap := w.heap.setIfInBounds b o' } := by
  cases o <;> first | exact (hc _ _ _ rfl).elim | simp [setObj, Sem.run, h]

/-- THE CALL OF yield: a round. -/
theorem AOp.yield {x : Operand} {args : Array Operand} {tys : Array TypeId} {l : Nat} {s : LoopState} {pend : Option Code} {fn : FuncId} {tm : List AV} {ps : Array Tmp} {assign body : Code} {d : Nat}
    (ho : o.op = .call { callee := .value x, args := args, argTypes := tys }) (hx : evU E a x = .yld l) (hcs : evCs E a (x :: args.toList)) (hl : st l = some (.loop s pend fn tm ps assign body d)) (hps : args.size = ps.size)
    (h : AW E (some l) assign (AThen (fun a1 st1 => ∃ pend fn tm ps assign' body' d, st1 l = some (.loop .ready pend fn tm ps assign' body' d) ∧
        AW E (some l) body (ARound l fun v st' => Kn (a.put o.dst v) st') a1 (st1.set l (.loop .busy pend fn tm ps assign' body' d))) (fun _ _ _ => False))
      { tm := bindTm tm ps.toList (args.toList.map (evU E a)), ds := [] } st) : AOp E r o Kn Q a st := by
  intro κ w act rd hR hA hr
  refine ⟨fun _ _ => trivial, ?_⟩
  rw [semAt_of (fun c => by rw [ho]; simp)]
  have hv := unO_ok (hA.ev hR x) hcs.1
  rw [show unO (a.ev E x) = evU E a x from rfl, hx] at hv
  simp only [VR] at hv
  obtain ⟨L, b, hL, hxe, hbe⟩ := hv
  obtain ⟨L', hL', hB, _, _⟩ := hR.dom l _ hl
  rw [hL] at hL'; cases hL'
  obtain ⟨hg0, tmps, db, htm, hget, hheap, _⟩ := BR_loop (E := E) hB
  have hb := hbe hg0
  subst hb
  have hargs := evsC_ok hR hA args.toList hcs.2
  have hrun : (execOp act.eval o).run E.P w = .ok (.round L.b fn ((ps.zip (args.map act.eval)).foldl (fun tmps (t, a) => tmps.setIfInBounds t a) tmps) assign body) w := by
    simp [execOp, ho, resolve, hxe, Deferred.ofValue, invoke, Instr.yield, hget, hps]
  rw [hrun]
  refine ⟨fun h => by simp [Fence.wide] at h, ?_⟩
  refine roundIn_of_wpIn (F := Fr rd) trivial ?_
  have hA0 : AR κ { tm := bindTm tm ps.toList (args.toList.map (evU E a)), ds := [] } { tmps := (ps.zip (args.map act.eval)).foldl (fun tmps (t, a) => tmps.setIfInBounds t a) tmps, defers := [] } :=
    ⟨by
      have := bindTm_ok (κ := κ) ps.toList (args.toList.map (evU E a)) (args.toList.map act.eval) tm tmps hargs htm
      show VRs κ _ _
      rw [← Array.foldl_toList, Array.toList_zip]
      simpa using this, rfl⟩
  refine wpIn_mono (h κ w _ (some L.b) hR hA0 (RdR.round hL)) ?_
  rintro e act1 w1 ⟨κ1, x1, a1, st1, hle1, hR1, hA1, hx1, hq⟩
  cases x1 with
  | exit id => exact hq.elim
  | goto l => exact hq.elim
  | ret => exact hq.elim
  | panic v => exact hq.elim
  | normal =>
    simp only [XR] at hx1; subst hx1
    obtain ⟨pend1, fn1, tm1, ps1, assign1, body1, d1, hl1, hbody⟩ := hq
    obtain ⟨L1, hL1, hB1, _, _⟩ := hR1.dom l _ hl1
    obtain ⟨Lx, hLx, _, hgen, _⟩ := hle1.loc l L hL
    rw [hL1] at hLx; cases hLx
    obtain ⟨hg1, tmps1, db1, htm1, hget1, hheap1, hmk1⟩ := BR_loop (E := E) hB1
    have hLL : L1 = L := hgen (by omega)
    subst hLL
    obtain ⟨hR2, hK2⟩ := hR1.setObj hl1 hL1 (.loop { state := .busy, pending := pend1, fn := fn1, tmps := tmps1, params := ps1, assign := assign1, body := body1, defers := db1 })
      (B := .loop .busy pend1 fn1 tm1 ps1 assign1 body1 d1) (fun κ' hle hloc => hmk1 κ' _ _ _ hle hloc (by
        have := (Array.getElem?_eq_some_iff.1 hheap1).1
        simp [Array.getElem?_setIfInBounds, this]))
    refine ⟨{ w1 with heap := w1.heap.setIfInBounds L1.b (.loop { state := .busy, pending := pend1, fn := fn1, tmps := tmps1, params := ps1, assign := assign1, body := body1, defers := db1 }) }, ?_, ?_⟩
    · simp [Instr.beginRound, hget1, run_setObj' hheap1 (by simp)]
    · refine wpIn_mono (hbody _ _ act1 (some L1.b) hR2 (hA1.mono hK2) ((RdR.round hL1).mono hK2)) ?_
      rintro e2 act2 w2 ⟨κ2, x2, a2, st2, hle2, hR3, hA2, hx2, hq2⟩
      simp only [ARound] at hq2
      have hle02 := hle1.trans (hK2.trans hle2)
      split at hq2
      · rename_i s3 pend3 fn3 tm3 ps3 assign3 body3 d3 hl3
        obtain ⟨L3, hL3, hB3, _, _⟩ := hR3.dom l _ hl3
        obtain ⟨Ly, hLy, _, hgen3, _⟩ := hle02.loc l L1 hL
        rw [hL3] at hLy; cases hLy
        obtain ⟨hg3, tmps3, db3, htm3, hget3, hheap3, hmk3⟩ := BR_loop (E := E) hB3
        have hLL3 : L3 = L1 := hgen3 (by omega)
        subst hLL3
        have fin : ∀ (jump : Option Code) (v : AV) (cv : Value), VR κ2 v cv → cv = .bool jump.isNone → Kn (a.put o.dst v) (st2.set l (.loop (if jump.isNone then .ready else .done) jump fn3 tm3 ps3 assign3 body3 d3)) →
            ∃ v w', (Instr.endRound L3.b jump).run E.P w2 = .ok v w' ∧ (match (Ending.returned v), w' with | .returned v, w'' => upK E κ Kn (act.put o.dst v) w'' | .panicked chain, w'' => upX E κ Q (.panic chain) act w'' | .outgrown, _ => LetsOut (upX E κ Q)) := by
          intro jump v cv hv hcv hk
          obtain ⟨hR4, hK4⟩ := hR3.setObj hl3 hL3 (.loop { state := if jump.isNone then .ready else .done, pending := jump, fn := fn3, tmps := tmps3, params := ps3, assign := assign3, body := body3, defers := db3 })
            (B := .loop (if jump.isNone then .ready else .done) jump fn3 tm3 ps3 assign3 body3 d3) (fun κ' hle hloc => hmk3 κ' _ _ _ hle hloc (by
              have := (Array.getElem?_eq_some_iff.1 hheap3).1
              simp [Array.getElem?_setIfInBounds, this]))
          refine ⟨cv, _, by simp only [Instr.endRound, Sem.run_bind, hget3, Result.andThen, run_setObj' hheap3 (fun _ _ _ h => by cases h), hcv]; rfl, ?_⟩
          exact ⟨_, _, _, hle02.trans hK4, hR4, (hA.mono (hle02.trans hK4)).put o.dst (VR.mono hK4 _ _ hv), hk⟩
        cases x2 with
        | normal => simp only [XR] at hx2; subst hx2; exact fin none (.bool true) (.bool true) (by simp [VR]) rfl hq2
        | ret => simp only [XR] at hx2; subst hx2; exact fin (some .ret) (.bool false) (.bool false) (by simp [VR]) rfl hq2
        | exit id => simp only [XR] at hx2; subst hx2; exact fin (some (.exit id)) (.bool false) (.bool false) (by simp [VR]) rfl hq2
        | goto t => simp only [XR] at hx2; subst hx2; exact fin (some (.goto t)) (.bool false) (.bool false) (by simp [VR]) rfl hq2
        | panic v => exact hq2.elim
      · exact hq2.elim

end
end Go.Abs
