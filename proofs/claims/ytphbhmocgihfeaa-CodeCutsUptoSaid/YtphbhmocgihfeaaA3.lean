/- THE ABSTRACT MEMORY (part 3): regions; operations that only reckon. -/
import Derived.Test.YtphbhmocgihfeaaA2
namespace Go.Abs
open Go.RowKit
set_option linter.unusedSectionVars false
set_option linter.unusedVariables false

/-- ONE OPERATION. -/
def AOp (E : Env) (r : Option Nat) (o : Oper) (Kn : ANext) (Q : APost) (a : AA) (st : St) : Prop :=
  ∀ κ w act rd, Rel E κ st w → AR κ a act → RdR κ r rd → o.wpIn (Fr rd) 0 E.P act w (upK E κ Kn) (upX E κ Q)
/-- THE OPERATIONS of a region in some order. -/
def AOps (E : Env) (r : Option Nat) (ops : Array Oper) (Q : APost) (l : List Nat) (a : AA) (st : St) : Prop :=
  ∀ κ w act rd, Rel E κ st w → AR κ a act → RdR κ r rd → wpOpsIn (Fr rd) 0 E.P ops (upX E κ Q) l act w

/-- Does the operation's guard let it? 'none': it cannot be told. -/
def agd (v : AV) (want : Bool) : Option Bool :=
  match v with
  | .bool b => some (b == want)
  | .opt c (.bool b) => some (c && (b == want))
  | .tup _ => some false
  | _ => none

def isB (cv : Value) (want : Bool) : Bool := match cv with | .bool b => b == want | _ => false
theorem agd_ok {κ : K} {v : AV} {want g : Bool} {cv : Value} (h : agd v want = some g) (hv : VR κ v cv) : isB cv want = g := by
  unfold agd at h
  split at h
  · cases h; simp only [VR] at hv; subst hv; rfl
  · rename_i c b
    cases h
    simp only [VR] at hv
    cases c with
    | true => have := hv.1 rfl; subst this; simp [isB]
    | false => have := hv.2 rfl; subst this; rfl
  · cases h; simp only [VR] at hv; obtain ⟨vs, rfl, _⟩ := hv; rfl
  · cases h

theorem yielded_some {ops : Array Oper} {tmps : Array Value} {j d : Nat} (h : (ops[j]?).bind (·.dst) = some d) (want : Bool) :
    (yielded ops tmps j == some want) = isB (tmps.getD d undef) want := by
  unfold yielded
  rw [h]
  simp only [Option.bind_some]
  cases ht : tmps[d]? with
  | none => simp [Array.getD_eq_getD_getElem?, ht, undef, isB]
  | some v => cases v <;> simp [Array.getD_eq_getD_getElem?, ht, isB]

theorem uponIn_mono {F : Fence} {n : Nat} {P : Program} {o : Oper} {a : Act} {K1 K2 : Act → World → Prop} {Q1 Q2 : Exit → Act → World → Prop} (hk : ∀ a w, K1 a w → K2 a w) (hq : ∀ e a w, Q1 e a w → Q2 e a w)
    {res : Result Next} (h : o.uponIn F n P a K1 Q1 res) : o.uponIn F n P a K2 Q2 res := by
  cases res with
  | ok nx w' =>
    cases nx <;> simp only [Oper.uponIn] at h ⊢ <;> first
      | exact hk _ _ h
      | (refine ⟨h.1, CallsIn.mono h.2 fun e w' he => ?_⟩
         cases e with
         | returned v => exact hk _ _ he
         | panicked ch => exact hq _ _ _ he
         | outgrown => obtain ⟨x, y, z⟩ := he; exact ⟨x, y, hq _ _ _ z⟩)
      | (refine ⟨h.1, RoundIn.mono h.2 fun e w' he => ?_⟩
         cases e with
         | returned v => exact hk _ _ he
         | panicked ch => exact hq _ _ _ he
         | outgrown => obtain ⟨x, y, z⟩ := he; exact ⟨x, y, hq _ _ _ z⟩)
      | exact ⟨h.1, RowsIn.mono h.2 fun v w' he => hk _ _ he⟩
  | halt x w' => cases x <;> simp only [Oper.uponIn] at h ⊢ <;> exact hq _ _ _ h

theorem wpOpsIn_mono {Q Q' : Exit → Act → World → Prop} {F : Fence} {n : Nat} {P : Program} {ops : Array Oper} (hq : ∀ e a w, Q e a w → Q' e a w) : ∀ (l : List Nat) (a : Act) (w : World), wpOpsIn F n P ops Q l a w → wpOpsIn F n P ops Q' l a w
    | [], a, w, h => hq _ _ _ h
    | i :: rest, a, w, h => by
      simp only [wpOpsIn] at h ⊢
      cases ho : ops[i]? with
      | none => simp only [ho] at h ⊢; exact wpOpsIn_mono hq rest a w h
      | some o =>
        simp only [ho] at h ⊢
        split
        · rename_i hw
          rw [if_pos hw] at h
          exact ⟨h.1, uponIn_mono (wpOpsIn_mono hq rest) hq h.2⟩
        · rename_i hw
          rw [if_neg hw] at h
          exact ⟨h.1, wpOpsIn_mono hq rest _ w h.2⟩

section
variable {E : Env} {r : Option Nat} {Q : APost} {ops : Array Oper} {a : AA} {st : St}

theorem AOps.nil (h : Q .normal a st) : AOps E r ops Q [] a st := fun κ w act rd h1 h2 h3 => ⟨κ, .normal, a, st, K.Le.refl κ, h1, h2, rfl, h⟩

theorem AOps.none {i : Nat} {rest : List Nat} (ho : ops[i]? = none) (h : AOps E r ops Q rest a st) : AOps E r ops Q (i :: rest) a st := by
  intro κ w act rd h1 h2 h3
  simp only [wpOpsIn, ho]
  exact h κ w act rd h1 h2 h3

theorem wpOpsIn_up {κ κ' : K} (hle : K.Le κ κ') {rd : Option Nat} (hr : RdR κ r rd) {l : List Nat} {a' : AA} {st' : St} {act' : Act} {w' : World} (h : AOps E r ops Q l a' st')
    (h1 : Rel E κ' st' w') (h2 : AR κ' a' act') : wpOpsIn (Fr rd) 0 E.P ops (upX E κ Q) l act' w' := by
  have := h κ' w' act' rd h1 h2 (hr.mono hle)
  exact wpOpsIn_mono (fun _ _ _ hu => upX_le hle (fun _ _ _ h => h) hu) l _ _ this

theorem AOps.cons {i : Nat} {rest : List Nat} {o : Oper} (ho : ops[i]? = some o) (hg : o.guard = Option.none) (h : AOp E r o (AOps E r ops Q rest) Q a st) : AOps E r ops Q (i :: rest) a st := by
  intro κ w act rd h1 h2 h3
  have hw : Region.wanted o (yielded ops act.tmps) = true := by simp [Region.wanted, hg]
  simp only [wpOpsIn, ho, hw, if_true]
  refine ⟨fun _ _ => trivial, uponIn_mono ?_ (fun _ _ _ h => h) (h κ w act rd h1 h2 h3).2⟩
  rintro act' w' ⟨κ', a', st', hle, h1', h2', hn⟩
  exact wpOpsIn_up hle h3 hn h1' h2'

theorem AOps.guard {i : Nat} {rest : List Nat} {o : Oper} {j d : Nat} {want g : Bool} (ho : ops[i]? = some o) (hg : o.guard = some (j, want)) (hd : (ops[j]?).bind (·.dst) = some d) (hy : agd (a.get d) want = some g)
    (h : g = true → AOp E r o (AOps E r ops Q rest) Q a st) (h' : g = false → AOps E r ops Q rest (a.put o.dst (.tup [])) st) : AOps E r ops Q (i :: rest) a st := by
  intro κ w act rd h1 h2 h3
  have hv := h2.ev h1 (.tmp d)
  have hw : Region.wanted o (yielded ops act.tmps) = g := by
    simp only [Region.wanted, hg, yielded_some hd]
    exact agd_ok hy hv
  simp only [wpOpsIn, ho, hw]
  cases g with
  | true =>
    simp only [if_true]
    refine ⟨fun _ _ => trivial, uponIn_mono ?_ (fun _ _ _ h => h) (h rfl κ w act rd h1 h2 h3).2⟩
    rintro act' w' ⟨κ', a', st', hle, h1', h2', hn⟩
    exact wpOpsIn_up hle h3 hn h1' h2'
  | false =>
    simp only [Bool.false_eq_true, if_false]
    exact ⟨fun _ _ => trivial, wpOpsIn_up (K.Le.refl κ) h3 (h' rfl) h1 (h2.put _ (by simp only [VR, undef]; exact ⟨#[], rfl, by simp [VRs]⟩))⟩

/-- A REGION in the order of its text. -/
theorem AW.region {id : Nat} (h : AOps E r ops Q (List.range ops.size) a st) : AW E r (.region id ops false) Q a st :=
  fun κ w act rd h1 h2 h3 => wpIn_region (h κ w act rd h1 h2 h3)
theorem AW.region_draw {id : Nat} (h : ∀ t, AOps E r ops Q (Region.schedule (E.P.follows .mixedOrders) ops t) a st) : AW E r (.region id ops true) Q a st :=
  fun κ w act rd h1 h2 h3 => wpIn_region_draw fun t => h t κ w.drew act rd h1.drew h2 h3

/-- The operation only reckons: its value is v. -/
def PureV (E : Env) (o : Oper) (a : AA) (v : AV) : Prop :=
  ∀ κ st w act, Rel E κ st w → AR κ a act → (∀ c, o.op ≠ .defer c) ∧ ∃ cv, (execOp act.eval o).run E.P w = .ok (.value cv) w ∧ VR κ v cv

theorem semAt_of {o : Oper} (h : ∀ c, o.op ≠ .defer c) (rd : Option Nat) (ρ : Operand → Value) : o.semAt rd ρ = execOp ρ o := by
  cases rd with
  | none => rfl
  | some l => exact Oper.semAt_some l ρ o h

theorem AOp.pure {o : Oper} {Kn : ANext} {v : AV} (h : PureV E o a v) (hk : Kn (a.put o.dst v) st) : AOp E r o Kn Q a st := by
  intro κ w act rd h1 h2 h3
  obtain ⟨hd, cv, hr, hv⟩ := h κ st w act h1 h2
  refine ⟨fun _ _ => trivial, ?_⟩
  rw [semAt_of hd, hr]
  exact ⟨κ, _, st, K.Le.refl κ, h1, h2.put o.dst hv, hk⟩

/-- A guarded operation that only reckons: what it yields is there where the guard lets it. -/
theorem AOps.guard_pure {i : Nat} {rest : List Nat} {o : Oper} {j d : Nat} {want g : Bool} {v : AV} (ho : ops[i]? = some o) (hg : o.guard = some (j, want)) (hd : (ops[j]?).bind (·.dst) = some d) (hy : agd (a.get d) want = some g)
    (h : g = true → PureV E o a v) (hk : AOps E r ops Q rest (a.put o.dst (.opt g v)) st) : AOps E r ops Q (i :: rest) a st := by
  intro κ w act rd h1 h2 h3
  have hv := h2.ev h1 (.tmp d)
  have hw : Region.wanted o (yielded ops act.tmps) = g := by
    simp only [Region.wanted, hg, yielded_some hd]
    exact agd_ok hy hv
  simp only [wpOpsIn, ho, hw]
  cases g with
  | true =>
    obtain ⟨hd, cv, hr, hcv⟩ := h rfl κ st w act h1 h2
    simp only [if_true]
    refine ⟨fun _ _ => trivial, ?_⟩
    rw [semAt_of hd, hr]
    exact wpOpsIn_up (K.Le.refl κ) h3 hk h1 (h2.put _ (by simp only [VR]; exact ⟨fun _ => hcv, fun e => by cases e⟩))
  | false =>
    simp only [Bool.false_eq_true, if_false]
    exact ⟨fun _ _ => trivial, wpOpsIn_up (K.Le.refl κ) h3 hk h1 (h2.put _ (by simp [VR, undef]))⟩

end

end Go.Abs
