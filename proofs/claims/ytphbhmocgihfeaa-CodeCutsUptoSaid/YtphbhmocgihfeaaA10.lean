/- THE ABSTRACT MEMORY (part 10): how a function is entered and left; new blocks, stores. -/
import Derived.Test.YtphbhmocgihfeaaA9
namespace Go.Abs
open Go.RowKit
set_option linter.unusedSectionVars false
set_option linter.unusedVariables false
set_option linter.unusedSimpArgs false

/-- The marks of the loops over functions are taken up. -/
def ALeave : List ADef → St → (St → Prop) → Prop
  | [], st, Kn => Kn st
  | .collected id :: ds, st, Kn => st id = some (.dfr true) ∧ ALeave ds (st.set id (.dfr false)) Kn
  | _ :: _, _, _ => False

def ABody (E : Env) (fn : Func) (R : AEnd → St → Prop) : APost
  | .normal, a, st | .ret, a, st => ALeave a.ds st fun st' => ∃ c vs, aRess E.P a st' fn.results.toList = some (c, vs) ∧ c ∧ R (.ret (aTup vs)) st'
  | .panic v, a, st => ALeave a.ds st fun st' => R (.panic v) st'
  | _, _, _ => False

section
variable {E : Env} {κ : K} {st : St} {w : World} {a : AA} {act : Act}

theorem aleave_ok {fn : Func} {tmps : Array Value} {R : Ending → World → Prop} {u : FrameMode} (hu : u ≠ .run) : ∀ (ads : List ADef) {ds : List Deferred} {κ : K} {st : St} {w : World} {Kn : St → Prop}, DRs κ ads ds → Rel E κ st w → ALeave ads st Kn →
    (∀ κ' st' w', K.Le κ κ' → Rel E κ' st' w' → Kn st' → LeavesIn (Fr none) 0 E.P fn tmps R [] u w') → LeavesInM (Fr none) 0 E.P fn tmps R ds u w
  | [], ds, κ, st, w, Kn, hd, hR, hl, hk => by simp only [DRs] at hd; subst hd; exact hk κ st w (K.Le.refl κ) hR hl
  | .call _ _ :: _, ds, κ, st, w, Kn, hd, hR, hl, hk => by simp [ALeave] at hl
  | .collected id :: ads, ds, κ, st, w, Kn, hd, hR, hl, hk => by
    obtain ⟨d, ds', rfl, hd1, hd2⟩ := hd
    obtain ⟨hst, hl⟩ := hl
    obtain ⟨L, b, hL, rfl, hb⟩ := hd1
    obtain ⟨L', hL', hB, ho, hlt⟩ := hR.dom id _ hst
    rw [hL] at hL'; cases hL'
    obtain ⟨hg, hh⟩ := hB
    simp only [if_true] at hh
    have hbe := hb hg
    subst hbe
    refine ⟨hu, .inl ⟨L.b, { w with heap := w.heap.setIfInBounds L.b (.deferred none) }, rfl, ?_, ?_⟩⟩
    · simp [Instr.takeDeferred, getObj, setObj, Sem.run, hh]
    · have hgr : w.grownBy { w with heap := w.heap.setIfInBounds L.b (.deferred none) } (some L.b) :=
        ⟨rfl, rfl, rfl, by simp, fun k hk hne => by
          simp only [ne_eq, Option.some.injEq] at hne
          simp [Array.getElem?_setIfInBounds, Ne.symm hne]⟩
      have hle : ∀ L0, κ.loc id = some L0 → L0.gen ≤ L.gen ∧ (L.gen = L0.gen → L = L0) ∧ L.sz = L0.sz := fun L0 h0 => by rw [hL] at h0; cases h0; exact ⟨Nat.le_refl _, fun _ => rfl, rfl⟩
      have hR' : Rel E (κ.set id L) (st.set id (.dfr false)) { w with heap := w.heap.setIfInBounds L.b (.deferred none) } :=
        hR.put hle hgr ⟨hg, by simp [Array.getElem?_setIfInBounds, hlt]⟩ (by simpa using hlt) (.inl ⟨L, by simp [hst], hL, rfl⟩)
      have hK : K.Le κ (κ.set id L) := K.le_set hle
      exact aleave_ok hu ads (hd2.mono hK) hR' hl fun κ' st' w' h1 h2 h3 => hk κ' st' w' (hK.trans h1) h2 h3

theorem VRs_undef (κ : K) : ∀ n : Nat, VRs κ (List.replicate n (.tup [])) (List.replicate n undef)
  | 0 => by simp [VRs]
  | n + 1 => by
    simp only [List.replicate_succ, VRs]
    refine ⟨_, _, rfl, ?_, VRs_undef κ n⟩
    simp only [VR, undef]
    exact ⟨#[], rfl, by simp [VRs]⟩

theorem TR.args {args : List AV} {cargs : Array Value} (h : VRs κ args cargs.toList) (n : Nat) : TR κ (args ++ List.replicate (n - args.length) (.tup [])) (cargs ++ Array.replicate (n - cargs.size) undef) := by
  have hl := VRs_len h
  simp only [Array.length_toList] at hl
  have := VRs_append h (VRs_undef κ (n - args.length))
  simpa [TR, hl] using this

/-- A FUNCTION's CONTRACT, out of its body. -/
theorem ACalls.of_body {f : FuncId} {fn : Func} {c : Code} {args : List AV} {R : AEnd → St → Prop} (hf : E.P.funcs[f]? = some fn) (hb : fn.body = some c)
    (h : AW E none c (ABody E fn R) { tm := args ++ List.replicate (fn.ntmps - args.length) (.tup []), ds := [] } st) : ACalls E f args st R := by
  intro κ w cargs hR hargs
  have hl := VRs_len hargs
  simp only [Array.length_toList] at hl
  refine callsIn_of_wp_marks (F := Fr none) hf hb trivial ?_ rfl
  refine wpIn_mono (h κ w _ none hR ⟨TR.args hargs fn.ntmps, by simp [DRs]⟩ rfl) ?_
  rintro e act' w' ⟨κ', x, a', st', hle, hR', hA', hx, hq⟩
  have ret : ∀ (a' : AA) (st' : St), AR κ' a' act' → Rel E κ' st' w' → ALeave a'.ds st' (fun st' => ∃ c vs, aRess E.P a' st' fn.results.toList = some (c, vs) ∧ c ∧ R (.ret (aTup vs)) st') →
      LeavesInM (Fr none) 0 E.P fn act'.tmps (upE E κ R) act'.defers .returning w' := by
    intro a' st' hA' hR' hq
    refine aleave_ok (by simp) a'.ds hA'.d hR' hq ?_
    rintro κ'' st'' w'' hle' hR'' ⟨c, vs, h1, h2, h3⟩
    obtain ⟨cv, hr, hv⟩ := results_ok hR'' (hA'.mono hle') h1 h2
    exact ⟨cv, hr, κ'', .ret (aTup vs), st'', hle.trans hle', hR'', ⟨cv, rfl, hv⟩, h3⟩
  cases x with
  | normal => simp only [XR] at hx; subst hx; exact ret a' st' hA' hR' hq
  | ret => simp only [XR] at hx; subst hx; exact ret a' st' hA' hR' hq
  | panic v =>
    simp only [XR] at hx
    obtain ⟨cv, rfl, hv⟩ := hx
    refine aleave_ok (by simp) a'.ds hA'.d hR' hq ?_
    intro κ'' st'' w'' hle' hR'' h3
    exact ⟨κ'', .panic v, st'', hle.trans hle', hR'', ⟨cv, rfl, VR.mono hle' _ _ hv⟩, h3⟩
  | exit id => exact hq.elim
  | goto l => exact hq.elim


theorem stepR_scope {P : Program} {b : Frame} {a : Act} {k : List Item} {cs : List Frame} {w : World} {c : Code} : step P (lone (b.atR a (.code (.scope c) :: k)) cs w) = .next (lone (b.atR a (.code c :: .inScope c :: k)) cs w) :=
  step_lone_go (by simp [stepG, stepG.exec, Frame.atR])
theorem stepR_inScope {P : Program} {b : Frame} {a : Act} {k : List Item} {cs : List Frame} {w : World} {c : Code} : step P (lone (b.atR a (.inScope c :: k)) cs w) = .next (lone (b.atR a k) cs w) :=
  step_lone_go (by simp [stepG, stepG.exec, Frame.atR])

def ANoGoto (Q : APost) : APost
  | .goto _, _, _ => False
  | x, a, st => Q x a st

/-- A scope whose labels nothing jumps to. -/
theorem AW.scope {r : Option Nat} {Q : APost} {c : Code} (h : AW E r c (ANoGoto Q) a st) : AW E r (.scope c) Q a st := by
  intro κ w act rd h1 h2 h3 b k cs hro hb hr
  have h0 : (lone (b.atR act (.code (.scope c) :: k)) cs w).fenced E.P (Fr rd) := fenced_calm hb hr rfl
  obtain ⟨e, a₁, w₁, ⟨κ', x, a', st', hle, hR', hA', hx, hq⟩, harr⟩ := h κ w act rd h1 h2 h3 b (.inScope c :: k) cs hro hb hr
  have hX : ∀ id, exitTo id (.inScope c :: k) = exitTo id k := fun id => by simp [exitTo]
  cases x with
  | normal =>
    simp only [XR] at hx; subst hx
    exact ⟨.normal, a₁, w₁, ⟨κ', .normal, a', st', hle, hR', hA', rfl, hq⟩, .head h0 stepR_scope (StepsIn.trans harr (.one (fenced_calm hb hr rfl) stepR_inScope))⟩
  | exit id =>
    simp only [XR] at hx; subst hx
    exact ⟨.exit id, a₁, w₁, ⟨κ', .exit id, a', st', hle, hR', hA', rfl, hq⟩, fun k' hk => .head h0 stepR_scope (harr.1 k' (by rw [hX]; exact hk)),
      fun hr' hk => let ⟨k₁, h1, h2⟩ := harr.2 hr' (by rw [hX]; exact hk); ⟨k₁, h1, .head h0 stepR_scope h2⟩⟩
  | goto l => exact hq.elim
  | ret => simp only [XR] at hx; subst hx; exact ⟨_, a₁, w₁, ⟨κ', .ret, a', st', hle, hR', hA', rfl, hq⟩, .of_steps (.one h0 stepR_scope) harr⟩
  | panic v => simp only [XR] at hx; obtain ⟨cv, rfl, hv⟩ := hx; exact ⟨_, a₁, w₁, ⟨κ', .panic v, a', st', hle, hR', hA', ⟨cv, rfl, hv⟩, hq⟩, .of_steps (.one h0 stepR_scope) harr⟩

end
end Go.Abs
