/- THE ABSTRACT MEMORY (part 2): what a piece of code does to it; the rules of control. -/
import Derived.Test.YtphbhmocgihfeaaA1
namespace Go.Abs
open Go.RowKit
set_option linter.unusedSectionVars false
set_option linter.unusedVariables false

inductive ADef where
  | collected (id : Nat)
  | call (f : AV) (args : List AV)

structure AA where
  tm : List AV
  ds : List ADef

def AA.get (a : AA) (t : Nat) : AV := a.tm.getD t (.tup [])
def AA.put (a : AA) (dst : Option Tmp) (v : AV) : AA :=
  match dst with
  | none => a
  | some d => { a with tm := a.tm.set d v }

/-- A constant of the program's text. -/
def absS : Value → AV
  | .bool b => .bool b
  | .int k n => .int k n
  | .string s => .str s.data.toList
  | .pointer none => .nilp
  | .slice none n m => if n = 0 ∧ m = 0 then .nils else .junk
  | .map none => .nilm
  | .nilFunc => .nilf
  | .nilIface => .nili
  | .tuple vs => if vs = #[] then .tup [] else .junk
  | _ => .junk
def absV : Value → AV
  | .agg cs => .agg (cs.toList.map absS)
  | v => absS v

def AA.ev (E : Env) (a : AA) : Operand → AV
  | .tmp t => a.get t
  | .const v => absV v
  | .global g => E.G g
  | .func f => .clo (.func f) [] []

theorem absS_ok (κ : K) (v : Value) : VR κ (absS v) v := by
  cases v with
  | slice a n m =>
    cases a with
    | none =>
      simp only [absS]
      split
      · rename_i h; obtain ⟨rfl, rfl⟩ := h; simp [VR]
      · simp [VR]
    | some a => simp [absS, VR]
  | tuple vs =>
    simp only [absS]
    split
    · rename_i h; subst h; simp [VR, VRs]
    · simp [VR]
  | pointer a => cases a <;> simp [absS, VR]
  | map a => cases a <;> simp [absS, VR]
  | _ => simp [absS, VR]

theorem absSs_ok (κ : K) : ∀ vs : List Value, VRs κ (vs.map absS) vs
  | [] => by simp [VRs]
  | v :: vs => by
    simp only [List.map_cons, VRs]
    exact ⟨v, vs, rfl, absS_ok κ v, absSs_ok κ vs⟩

theorem absV_ok (κ : K) (v : Value) : VR κ (absV v) v := by
  unfold absV
  split
  · rename_i cs
    simp only [VR]
    exact ⟨cs, rfl, absSs_ok κ _⟩
  · exact absS_ok κ _

def DR (κ : K) : ADef → Deferred → Prop
  | .collected id, d => ∃ L b, κ.loc id = some L ∧ d = { target := .collected b, args := #[] } ∧ (L.gen = 0 → b = L.b)
  | .call f args, d => ∃ fn fi ca first caps, f = .clo fn first caps ∧ d.target = .fn fn ca ∧ (∃ xs, d.args = fi ++ xs ∧ VRs κ args xs.toList) ∧ VRs κ first fi.toList ∧ VRs κ caps ca.toList
def DRs (κ : K) : List ADef → List Deferred → Prop
  | [], ds => ds = []
  | a :: as, ds => ∃ d ds', ds = d :: ds' ∧ DR κ a d ∧ DRs κ as ds'

theorem DR.mono {κ κ' : K} (h : K.Le κ κ') {a : ADef} {d : Deferred} (hd : DR κ a d) : DR κ' a d := by
  cases a with
  | collected id =>
    obtain ⟨L, b, hL, rfl, hb⟩ := hd
    obtain ⟨L', hL', g1, e1, s1⟩ := h.loc id L hL
    exact ⟨L', b, hL', rfl, fun e => by have := e1 (by omega); subst this; exact hb e⟩
  | call f args =>
    obtain ⟨fn, fi, ca, first, caps, h1, h2, ⟨xs, h3, h4⟩, h5, h6⟩ := hd
    exact ⟨fn, fi, ca, first, caps, h1, h2, ⟨xs, h3, VRs.mono h _ _ h4⟩, VRs.mono h _ _ h5, VRs.mono h _ _ h6⟩
theorem DRs.mono {κ κ' : K} (h : K.Le κ κ') : ∀ {as : List ADef} {ds : List Deferred}, DRs κ as ds → DRs κ' as ds
  | [], _, hd => hd
  | a :: as, _, hd => by
    obtain ⟨d, ds', rfl, h1, h2⟩ := hd
    exact ⟨d, ds', rfl, h1.mono h, DRs.mono h h2⟩

structure AR (κ : K) (a : AA) (act : Act) : Prop where
  t : TR κ a.tm act.tmps
  d : DRs κ a.ds act.defers
theorem AR.mono {κ κ' : K} (h : K.Le κ κ') {a : AA} {act : Act} (r : AR κ a act) : AR κ' a act := ⟨VRs.mono h _ _ r.t, r.d.mono h⟩

theorem VRs_len0 {κ : K} : ∀ {as : List AV} {vs : List Value}, VRs κ as vs → vs.length = as.length
  | [], _, h => by simp only [VRs] at h; simp [h]
  | a :: as, _, h => by simp only [VRs] at h; obtain ⟨v, vs, rfl, _, h2⟩ := h; simp [VRs_len0 h2]
theorem VRs_getD {κ : K} : ∀ {as : List AV} {vs : List Value} (_ : VRs κ as vs) (i : Nat), VR κ (as.getD i (.tup [])) (vs.getD i undef)
  | [], _, h, i => by
    simp only [VRs] at h; subst h
    simp only [List.getD_nil, VR, undef]
    exact ⟨#[], rfl, by simp [VRs]⟩
  | a :: as, _, h, i => by
    simp only [VRs] at h
    obtain ⟨v, vs, rfl, h1, h2⟩ := h
    cases i with
    | zero => exact h1
    | succ i => exact VRs_getD h2 i
theorem VRs_set {κ : K} : ∀ {as : List AV} {vs : List Value} (_ : VRs κ as vs) (i : Nat) {a : AV} {v : Value} (_ : VR κ a v), VRs κ (as.set i a) (vs.set i v)
  | [], _, h, i, _, _, _ => by simp only [VRs] at h; subst h; simp [VRs]
  | b :: bs, _, h, i, a, v, hv => by
    simp only [VRs] at h
    obtain ⟨u, us, rfl, h1, h2⟩ := h
    cases i with
    | zero => simp only [List.set_cons_zero, VRs]; exact ⟨v, us, rfl, hv, h2⟩
    | succ i => simp only [List.set_cons_succ, VRs]; exact ⟨u, _, rfl, h1, VRs_set h2 i hv⟩

theorem AR.get {κ : K} {a : AA} {act : Act} (r : AR κ a act) (t : Nat) : VR κ (a.get t) (act.tmps.getD t undef) := by
  have := VRs_getD r.t t
  simpa [AA.get, Array.getD_eq_getD_getElem?, List.getD] using this

theorem AR.ev {E : Env} {κ : K} {st : St} {w : World} {a : AA} {act : Act} (r : AR κ a act) (h : Rel E κ st w) (x : Operand) : VR κ (a.ev E x) (act.eval x) := by
  cases x with
  | tmp t => exact r.get t
  | const v => exact absV_ok κ v
  | global g => exact h.glob g
  | func f => simp only [AA.ev, Act.eval, VR]; exact ⟨#[], #[], rfl, by simp [VRs], by simp [VRs]⟩

theorem AR.put {κ : K} {a : AA} {act : Act} (r : AR κ a act) (dst : Option Tmp) {v : AV} {cv : Value} (hv : VR κ v cv) : AR κ (a.put dst v) (act.put dst cv) := by
  cases dst with
  | none => exact r
  | some d => exact ⟨by have := VRs_set r.t d hv; simpa [TR, AA.put, Act.put, Array.toList_setIfInBounds] using this, r.d⟩

inductive AExit where
  | normal
  | exit (id : Nat)
  | goto (l : Nat)
  | ret
  | panic (v : AV)
inductive AEnd where
  | ret (v : AV)
  | panic (v : AV)

def XR (κ : K) : AExit → Exit → Prop
  | .normal, e => e = .normal
  | .exit id, e => e = .exit id
  | .goto l, e => e = .goto l
  | .ret, e => e = .ret
  | .panic v, e => ∃ cv, e = .panic [{ v := cv, recovered := false }] ∧ VR κ v cv
def EndR (κ : K) : AEnd → Ending → Prop
  | .ret v, e => ∃ cv, e = .returned cv ∧ VR κ v cv
  | .panic v, e => ∃ cv, e = .panicked [{ v := cv, recovered := false }] ∧ VR κ v cv

abbrev APost := AExit → AA → St → Prop
abbrev ANext := AA → St → Prop

/-- The fence: every function; the round's record, where the frame is a round's. -/
abbrev Fr (rd : Option Nat) : Fence := { Fence.wide with round := rd }
def RdR (κ : K) : Option Nat → Option Nat → Prop
  | none, rd => rd = none
  | some id, rd => ∃ L b, κ.loc id = some L ∧ rd = some b ∧ (L.gen = 0 → b = L.b)
theorem RdR.mono {κ κ' : K} (h : K.Le κ κ') {r rd : Option Nat} (hr : RdR κ r rd) : RdR κ' r rd := by
  cases r with
  | none => exact hr
  | some id =>
    obtain ⟨L, b, hL, rfl, hb⟩ := hr
    obtain ⟨L', hL', g1, e1, s1⟩ := h.loc id L hL
    exact ⟨L', b, hL', rfl, fun e => by have := e1 (by omega); subst this; exact hb e⟩

def upK (E : Env) (κ : K) (Kn : ANext) : Act → World → Prop := fun act w => ∃ κ' a st, K.Le κ κ' ∧ Rel E κ' st w ∧ AR κ' a act ∧ Kn a st
def upX (E : Env) (κ : K) (Q : APost) : Exit → Act → World → Prop := fun e act w => ∃ κ' x a st, K.Le κ κ' ∧ Rel E κ' st w ∧ AR κ' a act ∧ XR κ' x e ∧ Q x a st
def upE (E : Env) (κ : K) (R : AEnd → St → Prop) : Ending → World → Prop := fun e w => ∃ κ' x st, K.Le κ κ' ∧ Rel E κ' st w ∧ EndR κ' x e ∧ R x st

theorem upX_le {E : Env} {κ κ' : K} (h : K.Le κ κ') {Q Q' : APost} (hq : ∀ x a st, Q x a st → Q' x a st) {e : Exit} {act : Act} {w : World} (hu : upX E κ' Q e act w) : upX E κ Q' e act w := by
  obtain ⟨κ'', x, a, st, h1, h2, h3, h4, h5⟩ := hu
  exact ⟨κ'', x, a, st, h.trans h1, h2, h3, h4, hq _ _ _ h5⟩
theorem upK_le {E : Env} {κ κ' : K} (h : K.Le κ κ') {Q Q' : ANext} (hq : ∀ a st, Q a st → Q' a st) {act : Act} {w : World} (hu : upK E κ' Q act w) : upK E κ Q' act w := by
  obtain ⟨κ'', a, st, h1, h2, h3, h5⟩ := hu
  exact ⟨κ'', a, st, h.trans h1, h2, h3, hq _ _ h5⟩
theorem upE_le {E : Env} {κ κ' : K} (h : K.Le κ κ') {Q Q' : AEnd → St → Prop} (hq : ∀ x st, Q x st → Q' x st) {e : Ending} {w : World} (hu : upE E κ' Q e w) : upE E κ Q' e w := by
  obtain ⟨κ'', x, st, h1, h2, h4, h5⟩ := hu
  exact ⟨κ'', x, st, h.trans h1, h2, h4, hq _ _ h5⟩

/-- THE CODE c, in a round's frame or not: from (a, st) on every way out is one that Q lets. -/
def AW (E : Env) (r : Option Nat) (c : Code) (Q : APost) (a : AA) (st : St) : Prop :=
  ∀ κ w act rd, Rel E κ st w → AR κ a act → RdR κ r rd → c.wpIn (Fr rd) 0 E.P (upX E κ Q) act w
/-- A CALL of function f. -/
def ACalls (E : Env) (f : FuncId) (args : List AV) (st : St) (R : AEnd → St → Prop) : Prop :=
  ∀ κ w cargs, Rel E κ st w → VRs κ args cargs.toList → CallsIn Fence.wide 0 E.P f cargs w (upE E κ R)

theorem AW.mono {E : Env} {r : Option Nat} {c : Code} {Q Q' : APost} {a : AA} {st : St} (h : AW E r c Q a st) (hq : ∀ x a st, Q x a st → Q' x a st) : AW E r c Q' a st :=
  fun κ w act rd h1 h2 h3 => wpIn_mono (h κ w act rd h1 h2 h3) fun _ _ _ hu => upX_le (K.Le.refl κ) hq hu
theorem ACalls.mono {E : Env} {f : FuncId} {args : List AV} {st : St} {R R' : AEnd → St → Prop} (h : ACalls E f args st R) (hq : ∀ x st, R x st → R' x st) : ACalls E f args st R' :=
  fun κ w cargs h1 h2 => CallsIn.mono (h κ w cargs h1 h2) fun _ _ hu => upE_le (K.Le.refl κ) hq hu

def AThen (Kn : ANext) (Q : APost) : APost
  | .normal, a, st => Kn a st
  | x, a, st => Q x a st
def AInBlock (id : Nat) (Q : APost) : APost
  | .exit id', a, st => if id' = id then Q .normal a st else Q (.exit id') a st
  | x, a, st => Q x a st

section rules
variable {E : Env} {r : Option Nat} {Q : APost} {a : AA} {st : St}

theorem AW.skip (h : Q .normal a st) : AW E r .skip Q a st := fun κ w act rd h1 h2 h3 => wpIn_skip ⟨κ, .normal, a, st, K.Le.refl κ, h1, h2, rfl, h⟩
theorem AW.label {l : Nat} (h : Q .normal a st) : AW E r (.label l) Q a st := fun κ w act rd h1 h2 h3 => wpIn_label ⟨κ, .normal, a, st, K.Le.refl κ, h1, h2, rfl, h⟩
theorem AW.exit {id : Nat} (h : Q (.exit id) a st) : AW E r (.exit id) Q a st := fun κ w act rd h1 h2 h3 => wpIn_exit ⟨κ, .exit id, a, st, K.Le.refl κ, h1, h2, rfl, h⟩
theorem AW.goto {l : Nat} (h : Q (.goto l) a st) : AW E r (.goto l) Q a st := fun κ w act rd h1 h2 h3 => wpIn_goto ⟨κ, .goto l, a, st, K.Le.refl κ, h1, h2, rfl, h⟩
theorem AW.ret (h : Q .ret a st) : AW E r .ret Q a st := fun κ w act rd h1 h2 h3 => wpIn_ret ⟨κ, .ret, a, st, K.Le.refl κ, h1, h2, rfl, h⟩

theorem AW.seq {x y : Code} (h : AW E r x (AThen (AW E r y Q) Q) a st) : AW E r (.seq x y) Q a st := by
  intro κ w act rd h1 h2 h3
  refine wpIn_seq (wpIn_mono (h κ w act rd h1 h2 h3) ?_)
  rintro e act' w' ⟨κ', x', a', st', hle, h1', h2', hx, hq⟩
  cases x' with
  | normal =>
    simp only [XR] at hx; subst hx
    exact wpIn_mono (hq κ' w' act' rd h1' h2' (h3.mono hle)) fun _ _ _ hu => upX_le hle (fun _ _ _ h => h) hu
  | exit id => simp only [XR] at hx; subst hx; exact ⟨κ', .exit id, a', st', hle, h1', h2', rfl, hq⟩
  | goto l => simp only [XR] at hx; subst hx; exact ⟨κ', .goto l, a', st', hle, h1', h2', rfl, hq⟩
  | ret => simp only [XR] at hx; subst hx; exact ⟨κ', .ret, a', st', hle, h1', h2', rfl, hq⟩
  | panic v => simp only [XR] at hx; obtain ⟨cv, rfl, hv⟩ := hx; exact ⟨κ', .panic v, a', st', hle, h1', h2', ⟨cv, rfl, hv⟩, hq⟩

theorem AW.cond {c : Operand} {x y : Code} {b : Bool} (hc : a.ev E c = .bool b) (hx : b = true → AW E r x Q a st) (hy : b = false → AW E r y Q a st) : AW E r (.cond c x y) Q a st := by
  intro κ w act rd h1 h2 h3
  have hv := h2.ev h1 c
  rw [hc] at hv
  simp only [VR] at hv
  cases b with
  | true => exact wpIn_cond hv (hx rfl κ w act rd h1 h2 h3)
  | false => exact wpIn_cond hv (hy rfl κ w act rd h1 h2 h3)

theorem AW.block {id : Nat} {c : Code} (h : AW E r c (AInBlock id Q) a st) : AW E r (.block id c) Q a st := by
  intro κ w act rd h1 h2 h3
  refine wpIn_block (wpIn_mono (h κ w act rd h1 h2 h3) ?_)
  rintro e act' w' ⟨κ', x', a', st', hle, h1', h2', hx, hq⟩
  cases x' with
  | normal => simp only [XR] at hx; subst hx; exact ⟨κ', .normal, a', st', hle, h1', h2', rfl, hq⟩
  | exit id' =>
    simp only [XR] at hx; subst hx
    simp only [AInBlock] at hq
    simp only [Exit.inBlock]
    split
    · rename_i e; rw [if_pos e] at hq; exact ⟨κ', .normal, a', st', hle, h1', h2', rfl, hq⟩
    · rename_i e; rw [if_neg e] at hq; exact ⟨κ', .exit id', a', st', hle, h1', h2', rfl, hq⟩
  | goto l => simp only [XR] at hx; subst hx; exact ⟨κ', .goto l, a', st', hle, h1', h2', rfl, hq⟩
  | ret => simp only [XR] at hx; subst hx; exact ⟨κ', .ret, a', st', hle, h1', h2', rfl, hq⟩
  | panic v => simp only [XR] at hx; obtain ⟨cv, rfl, hv⟩ := hx; exact ⟨κ', .panic v, a', st', hle, h1', h2', ⟨cv, rfl, hv⟩, hq⟩

/-- A LOOP: what holds at every round's head, and a number that each round lowers. -/
theorem AW.loop {c : Code} (I : ANext) (μ : AA → St → Nat) (h0 : I a st)
    (round : ∀ a st, I a st → AW E r c (AThen (fun a' st' => I a' st' ∧ μ a' st' < μ a st) Q) a st) : AW E r (.loop c) Q a st := by
  intro κ w act rd h1 h2 h3 b k cs hro hb hr
  have key : ∀ j a st κ w act, μ a st = j → I a st → Rel E κ st w → AR κ a act → RdR κ r rd →
      ∃ e a' w', upX E κ Q e a' w' ∧ ArrivesIn (Machine.fenced E.P (Fr rd)) E.P (lone (b.atR act (.code c :: .inLoop c :: k)) cs w) b k cs e a' w' := by
    intro j
    induction j using Nat.strongRecOn with
    | _ j ih =>
      intro a st κ w act hn hI h1 h2 h3
      obtain ⟨e, a₁, w₁, hq, harr⟩ := round a st hI κ w act rd h1 h2 h3 b (.inLoop c :: k) cs hro hb hr
      obtain ⟨κ', x', a', st', hle, h1', h2', hx, hq⟩ := hq
      cases x' with
      | normal =>
        simp only [XR] at hx; subst hx
        obtain ⟨hI₁, hlt⟩ := hq
        obtain ⟨e₂, a₂, w₂, hq₂, harr₂⟩ := ih (μ a' st') (hn ▸ hlt) a' st' κ' w₁ a₁ rfl hI₁ h1' h2' (h3.mono hle)
        exact ⟨e₂, a₂, w₂, upX_le hle (fun _ _ _ h => h) hq₂, .of_steps (StepsIn.trans harr (.one (fenced_calm hb hr rfl) stepR_inLoop)) harr₂⟩
      | exit id => simp only [XR] at hx; subst hx; exact ⟨_, a₁, w₁, ⟨κ', .exit id, a', st', hle, h1', h2', rfl, hq⟩, .pass (x := .inLoop c) rfl (fun _ _ => .inl (by simp)) harr⟩
      | goto l => simp only [XR] at hx; subst hx; exact ⟨_, a₁, w₁, ⟨κ', .goto l, a', st', hle, h1', h2', rfl, hq⟩, .pass (x := .inLoop c) rfl (fun _ _ => .inl (by simp)) harr⟩
      | ret => simp only [XR] at hx; subst hx; exact ⟨_, a₁, w₁, ⟨κ', .ret, a', st', hle, h1', h2', rfl, hq⟩, .pass (x := .inLoop c) rfl (fun _ _ => .inl (by simp)) harr⟩
      | panic v => simp only [XR] at hx; obtain ⟨cv, rfl, hv⟩ := hx; exact ⟨_, a₁, w₁, ⟨κ', .panic v, a', st', hle, h1', h2', ⟨cv, rfl, hv⟩, hq⟩, .pass (x := .inLoop c) rfl (fun _ _ => .inl (by simp)) harr⟩
  obtain ⟨e, a', w', hq, harr⟩ := key _ a st κ w act rfl h0 h1 h2 h3
  exact ⟨e, a', w', hq, .of_steps (.one (fenced_calm hb hr rfl) stepR_loop) harr⟩

end rules

end Go.Abs
