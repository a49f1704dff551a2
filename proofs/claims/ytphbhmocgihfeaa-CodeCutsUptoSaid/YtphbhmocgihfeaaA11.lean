/- THE ABSTRACT MEMORY (part 11): a region, reckoned. -/
import Derived.Test.YtphbhmocgihfeaaA10
namespace Go.Abs
open Go.RowKit
set_option linter.unusedSectionVars false
set_option linter.unusedVariables false
set_option linter.unusedSimpArgs false

/-- What is there where the guard lets it. -/
def optV (g : Bool) : AV → AV
  | .opt _ v => .opt g v
  | v => .opt g v
def optC (g : Bool) : AV → Prop
  | .opt g' _ => g = true → g' = true
  | _ => True
theorem optV_ok {κ : K} {g : Bool} {v : AV} {cv : Value} (hc : optC g v) (h : VR κ (.opt g v) cv) : VR κ (optV g v) cv := by
  cases v <;> first | exact h | skip
  case opt g' v =>
    simp only [VR] at h
    simp only [optV, VR]
    exact ⟨fun e => (h.1 e).1 (hc e), h.2⟩
theorem VRs_set_to {κ : K} {v v' : AV} (hv : ∀ cv, VR κ v cv → VR κ v' cv) : ∀ {l : List AV} {d : Nat} {vs : List Value}, VRs κ (l.set d v) vs → VRs κ (l.set d v') vs
  | [], d, vs, h => by simpa using h
  | x :: l, 0, vs, h => by
    simp only [List.set_cons_zero, VRs] at h ⊢
    obtain ⟨u, us, rfl, h1, h2⟩ := h
    exact ⟨u, us, rfl, hv _ h1, h2⟩
  | x :: l, d + 1, vs, h => by
    simp only [List.set_cons_succ, VRs] at h ⊢
    obtain ⟨u, us, rfl, h1, h2⟩ := h
    exact ⟨u, us, rfl, h1, VRs_set_to hv h2⟩
theorem AOps.opt {E : Env} {r : Option Nat} {ops : Array Oper} {Q : APost} {l : List Nat} {a : AA} {d : Option Nat} {g : Bool} {v : AV} {st : St} (hc : optC g v) (h : AOps E r ops Q l (a.put d (optV g v)) st) : AOps E r ops Q l (a.put d (.opt g v)) st := by
  intro κ w act rd h1 h2 h3
  refine h κ w act rd h1 ⟨?_, ?_⟩ h3
  · cases d with
    | none => exact h2.t
    | some d => exact VRs_set_to (fun cv => optV_ok hc) h2.t
  · cases d with
    | none => exact h2.d
    | some d => exact h2.d

theorem AOps.putMono {E : Env} {r : Option Nat} {ops : Array Oper} {Q : APost} {l : List Nat} {a : AA} {d : Option Nat} {v v' : AV} {st : St} (hv : ∀ κ cv, VR κ v cv → VR κ v' cv) (h : AOps E r ops Q l (a.put d v') st) : AOps E r ops Q l (a.put d v) st := by
  intro κ w act rd h1 h2 h3
  refine h κ w act rd h1 ⟨?_, ?_⟩ h3
  · cases d with
    | none => exact h2.t
    | some d => exact VRs_set_to (hv κ) h2.t
  · cases d with
    | none => exact h2.d
    | some d => exact h2.d
theorem VR_opt_true {κ : K} {v : AV} {cv : Value} (h : VR κ v cv) : VR κ (.opt true v) cv := by
  simp only [VR]; exact ⟨fun _ => h, fun e => (by cases e)⟩
theorem VR_opt_false {κ : K} {v : AV} {cv : Value} (h : VR κ (.tup []) cv) : VR κ (.opt false v) cv := by
  simp only [VR, VRs] at h ⊢
  obtain ⟨vs, rfl, h⟩ := h
  refine ⟨fun e => (by cases e), fun _ => ?_⟩
  have : vs = #[] := by simpa using h
  rw [this]

/-- The operations of a region, as far as they only reckon; Kn: what goes on. -/
def AOpsC (E : Env) (r : Option Nat) (ops : Array Oper) (Q : APost) (Kn : ANext) : List Nat → AA → St → Prop
  | [], a, st => Kn a st
  | i :: rest, a, st =>
    match ops[i]? with
    | none => AOpsC E r ops Q Kn rest a st
    | some o =>
      match o.guard with
      | none =>
        match pureOp E a o.op with
        | some (c, v) => c ∧ AOpsC E r ops Q Kn rest (a.put o.dst v) st
        | none => AOp E r o (AOps E r ops Q rest) Q a st
      | some (j, want) =>
        match (ops[j]?).bind (·.dst) with
        | none => False
        | some d =>
          match agd (a.get d) want with
          | none => False
          | some g =>
            match pureOp E a o.op with
            | some (c, v) => (g = true → c) ∧ optC g v ∧ AOpsC E r ops Q Kn rest (a.put o.dst (optV g v)) st
            | none => (g = true → AOp E r o (AOps E r ops Q rest) Q a st) ∧ (g = false → AOps E r ops Q rest (a.put o.dst (.tup [])) st)

section
variable {E : Env} {r : Option Nat} {Q : APost} {ops : Array Oper}

theorem AOpsC_ok {Kn : ANext} (hK : ∀ a st, Kn a st → Q .normal a st) : ∀ (l : List Nat) (a : AA) (st : St), AOpsC E r ops Q Kn l a st → AOps E r ops Q l a st
  | [], a, st, h => AOps.nil (hK _ _ h)
  | i :: rest, a, st, h => by
    simp only [AOpsC] at h
    split at h
    · rename_i ho; exact AOps.none ho (AOpsC_ok hK rest a st h)
    · rename_i o ho
      split at h
      · rename_i hg
        split at h
        · rename_i c v hp
          exact AOps.cons ho hg (AOp.pure (pureOp_ok hp h.1) (AOpsC_ok hK rest _ st h.2))
        · exact AOps.cons ho hg h
      · rename_i j want hg
        split at h
        · exact h.elim
        · rename_i d hd
          split at h
          · exact h.elim
          · rename_i g hy
            split at h
            · rename_i c v hp
              exact AOps.guard_pure ho hg hd hy (fun e => pureOp_ok hp (h.1 e)) (AOps.opt h.2.1 (AOpsC_ok hK rest _ st h.2.2))
            · exact AOps.guard ho hg hd hy h.1 h.2

theorem AW.regionC {id : Nat} {a : AA} {st : St} (h : ∀ (Q' : APost) (Kn : ANext), (∀ x a st, Q x a st → Q' x a st) → (∀ a st, Q .normal a st → Kn a st) → (∀ a st, Kn a st → Q' .normal a st) → AOpsC E r ops Q' Kn (List.range ops.size) a st) : AW E r (.region id ops false) Q a st :=
  AW.region (AOpsC_ok (fun _ _ h => h) _ _ _ (h Q (Q .normal) (fun _ _ _ h => h) (fun _ _ h => h) (fun _ _ h => h)))

/-- What is not looked at any more is forgotten. -/
inductive Weak : List AV → List AV → Prop
  | nil : Weak [] []
  | same (v : AV) {as bs : List AV} (h : Weak as bs) : Weak (v :: as) (v :: bs)
  | junk (v : AV) {as bs : List AV} (h : Weak as bs) : Weak (v :: as) (.junk :: bs)
theorem VRs_weak {κ : K} {as bs : List AV} (h : Weak as bs) : ∀ {vs : List Value}, VRs κ as vs → VRs κ bs vs := by
  induction h with
  | nil => exact fun h => h
  | same v h ih => intro vs hv; simp only [VRs] at hv ⊢; obtain ⟨u, us, rfl, h1, h2⟩ := hv; exact ⟨u, us, rfl, h1, ih h2⟩
  | junk v h ih => intro vs hv; simp only [VRs] at hv ⊢; obtain ⟨u, us, rfl, h1, h2⟩ := hv; exact ⟨u, us, rfl, by simp only [VR], ih h2⟩
theorem Weak.eqv {v v' : AV} (h : v = v') {as bs : List AV} (hw : Weak as bs) : Weak (v :: as) (v' :: bs) := by subst h; exact Weak.same v hw
theorem AW.weak {c : Code} {a : AA} {tm : List AV} {st : St} (h : Weak a.tm tm) (hk : AW E r c Q { tm := tm, ds := a.ds } st) : AW E r c Q a st :=
  fun κ w act rd h1 h2 h3 => hk κ w act rd h1 ⟨VRs_weak h h2.t, h2.d⟩ h3

theorem beq_true' (b : Bool) : (b == true) = b := by cases b <;> rfl
theorem beq_false' (b : Bool) : (b == false) = !b := by cases b <;> rfl

attribute [go_sem] Option.map_some Option.map_none optV optC Option.toArray List.append_nil List.toList_toArray AOpsC pureOp pureOp1 evU evC evCs unO unC AA.ev AA.get AA.put absV absS aBinOp aBin aInt aStr isShift aUn aConv aggT aIndex aSlice aBound aField aPart aExtract aLen aNil aFieldAddr aIndexAddr aLoadF aMkI aPick aMin aMax aBuiltin agd Op.operands Call.operands
  List.getD_cons_zero List.getD_cons_succ List.set_cons_zero List.set_cons_succ List.map Option.map Option.bind_some true_and and_true or_true ite_true reduceIte and_self Bool.false_eq_true List.size_toArray List.length_cons List.length_nil List.range_succ List.range_zero List.nil_append List.cons_append List.getElem?_toArray List.getElem?_cons_zero List.getElem?_cons_succ List.append_toArray forall_const implies_true imp_self beq_true' beq_false' Bool.not_eq_true' AThen AInBlock ANoGoto ABody ALeave aRess aRes1 aTup

end
end Go.Abs
