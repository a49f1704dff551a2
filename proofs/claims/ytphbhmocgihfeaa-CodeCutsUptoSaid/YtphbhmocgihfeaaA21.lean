/- THE ABSTRACT MEMORY (part 21): regions whose order is drawn: what only hands on fixed values may be taken in the text's order. -/
import Derived.Test.YtphbhmocgihfeaaA20
import Derived.Orders
namespace Go.Abs
open Go.RowKit
set_option linter.unusedSectionVars false
set_option linter.unusedVariables false

/-- The two frames agree on what the operation looks at. -/
def Same (ops : Array Oper) (o : Oper) (a' a : AA) : Prop := ∀ t ∈ o.looksAt ops, a'.get t = a.get t

section
variable {E : Env} {r : Option Nat} {Q : APost} {ops : Array Oper}

/-- Operation i yields v, whatever else stands in the frame and in memory, and leaves memory as it is. -/
def Fixed (E : Env) (r : Option Nat) (ops : Array Oper) (Q : APost) (i : Nat) (v : AV) (a : AA) : Prop :=
  ∃ o, ops[i]? = some o ∧ ∀ a' st rest, Same ops o a' a → AOps E r ops Q rest (a'.put o.dst v) st → AOps E r ops Q (i :: rest) a' st

/-- The operations, in the text's order, each fixed. -/
def Fx (E : Env) (r : Option Nat) (ops : Array Oper) (Q : APost) (Kn : ANext) : List Nat → AA → St → Prop
  | [], a, st => Kn a st
  | i :: l, a, st => ∃ v, Fixed E r ops Q i v a ∧ Fx E r ops Q Kn l (a.put ((ops[i]?).bind (·.dst)) v) st

theorem get_put_ne {a : AA} {dst : Option Tmp} {v : AV} {t : Nat} (h : ∀ d, dst = some d → d ≠ t) : (a.put dst v).get t = a.get t := by
  cases dst with
  | none => rfl
  | some d =>
    have hne := h d rfl
    simp [AA.put, AA.get, List.getD, List.getElem?_set_ne hne]

theorem put_comm (a : AA) {x y : Option Tmp} (v u : AV) (h : ∀ d, x = some d → y ≠ some d) : (a.put x v).put y u = (a.put y u).put x v := by
  cases x with
  | none => rfl
  | some d =>
    cases y with
    | none => rfl
    | some e =>
      have hne : d ≠ e := fun he => h d rfl (he ▸ rfl)
      simp [AA.put, List.set_comm _ _ hne]

theorem Fixed.congr {i : Nat} {v : AV} {a b : AA} {o : Oper} (ho : ops[i]? = some o) (h : Fixed E r ops Q i v a) (hs : Same ops o b a) : Fixed E r ops Q i v b := by
  obtain ⟨o', ho', h⟩ := h
  rw [ho] at ho'; cases ho'
  exact ⟨o, ho, fun a' st rest hs' hk => h a' st rest (fun t ht => (hs' t ht).trans (hs t ht)) hk⟩

theorem Fx.front {Kn : ANext} {i : Nat} {oi : Oper} (hi : ops[i]? = some oi) : ∀ (xs ys : List Nat) (a : AA) (st : St), Fx E r ops Q Kn (xs ++ i :: ys) a st → (∀ x ∈ xs, ∀ o, ops[x]? = some o → o.apart ops oi = true) →
    ∃ v, Fixed E r ops Q i v a ∧ Fx E r ops Q Kn (xs ++ ys) (a.put oi.dst v) st
  | [], ys, a, st, h, _ => by
    obtain ⟨v, h1, h2⟩ := h
    rw [hi] at h2
    exact ⟨v, h1, h2⟩
  | x :: xs, ys, a, st, h, hx => by
    obtain ⟨u, h1, h2⟩ := h
    have h1' := h1
    obtain ⟨ox, hox, _⟩ := h1'
    obtain ⟨p1, p2, p3⟩ := Oper.apart_spec (hx x (by simp) ox hox)
    rw [hox] at h2
    obtain ⟨v, g1, g2⟩ := Fx.front hi xs ys _ st h2 (fun y hy => hx y (by simp [hy]))
    refine ⟨v, g1.congr hi fun t ht => (get_put_ne fun d hd e => p1 d hd (e ▸ ht)).symm, u, h1.congr hox fun t ht => get_put_ne fun d hd e => p3 d hd (e ▸ ht), ?_⟩
    rw [hox]
    show Fx E r ops Q Kn (xs ++ ys) ((a.put oi.dst v).put ox.dst u) st
    rw [← put_comm a u v p2]
    exact g2

/-- Whenever something is left, something is ready. -/
def Live (md : Region.Mode) (ops : Array Oper) : Prop := ∀ listed : Array Bool, listed.size = ops.size → (∃ i, listed.getD i true = false) → Region.ready md ops listed ≠ []
/-- Two operations that are not apart stand in their order. -/
def Ordered (ops : Array Oper) : Prop := ∀ i j oi oj, i < j → ops[i]? = some oi → ops[j]? = some oj → oi.apart ops oj = true ∨ ∃ e ∈ oj.after, e.on = i ∧ Region.binds .any e = true

theorem binds_any {md : Region.Mode} {e : Edge} (h : Region.binds .any e = true) : Region.binds md e = true := by
  cases e with
  | mk on ground => cases ground <;> simp_all [Region.binds]

def left (listed : Array Bool) (n : Nat) : List Nat := (List.range n).filter fun i => !listed.getD i true

theorem filter_split {p : Nat → Bool} : ∀ {l : List Nat} {i : Nat}, l.Pairwise (· < ·) → i ∈ l → p i = true → ∃ xs ys, l.filter p = xs ++ i :: ys ∧ (∀ x ∈ xs, x < i ∧ p x = true) ∧ l.filter (fun j => p j && j != i) = xs ++ ys
  | [], i, _, h, _ => by cases h
  | a :: l, i, hp, h, hi => by
    simp only [List.pairwise_cons] at hp
    by_cases e : a = i
    · subst e
      refine ⟨[], l.filter p, by simp [hi], by simp, ?_⟩
      simp only [List.filter_cons, hi, bne_self_eq_false, Bool.and_false, Bool.false_eq_true, if_false, List.nil_append]
      exact List.filter_congr fun x hx => by
        have := hp.1 x hx
        have : x ≠ a := by omega
        simp [this]
    · have hm : i ∈ l := by simp only [List.mem_cons] at h; exact h.resolve_left (Ne.symm e)
      obtain ⟨xs, ys, h1, h2, h3⟩ := filter_split hp.2 hm hi
      cases hpa : p a with
      | true =>
        refine ⟨a :: xs, ys, by simp [hpa, h1], ?_, by simp [hpa, e, h3]⟩
        intro x hx
        simp only [List.mem_cons] at hx
        rcases hx with rfl | hx
        · exact ⟨hp.1 i hm, hpa⟩
        · exact h2 x hx
      | false => exact ⟨xs, ys, by simp [hpa, h1], h2, by simp [hpa, h3]⟩

theorem AOps.drawn {md : Region.Mode} {Kn : ANext} (hK : ∀ a st, Kn a st → Q .normal a st) (hl : Live md ops) (ho : Ordered ops) : ∀ (fuel t : Nat) (listed : Array Bool) (a : AA) (st : St), listed.size = ops.size → (left listed ops.size).length ≤ fuel →
    Fx E r ops Q Kn (left listed ops.size) a st → AOps E r ops Q (Region.linearise.go md ops fuel t listed []) a st
  | 0, t, listed, a, st, hs, hf, h => by
    have : left listed ops.size = [] := List.eq_nil_of_length_eq_zero (by omega)
    rw [this] at h
    exact AOps.nil (hK _ _ h)
  | fuel + 1, t, listed, a, st, hs, hf, h => by
    have hdone : Region.ready md ops listed = [] → left listed ops.size = [] := fun hr => by
      apply List.eq_nil_iff_forall_not_mem.2
      intro i hi
      simp only [left, List.mem_filter, Bool.not_eq_true'] at hi
      exact hl listed hs ⟨i, hi.2⟩ hr
    have hgo : Region.linearise.go md ops (fuel + 1) t listed [] = match (Region.ready md ops listed)[t % (Region.ready md ops listed).length]? with
        | some i => i :: Region.linearise.go md ops fuel (t / (Region.ready md ops listed).length) (listed.setIfInBounds i true) []
        | .none => [] := by
      simp only [Region.linearise.go, Region.ready]
      split
      · rename_i heq
        rw [linearise_go_acc, heq]; rfl
      · rename_i heq
        rw [heq]; rfl
    rw [hgo]
    split
    · rename_i i hi
      have hmem := List.mem_of_getElem? hi
      obtain ⟨hn, oi, hoi, hed⟩ := mem_ready.1 hmem
      have hlt : i < ops.size := (Array.getElem?_eq_some_iff.1 hoi).1
      obtain ⟨xs, ys, e1, e2, e3⟩ := filter_split (p := fun i => !listed.getD i true) (l := List.range ops.size) List.pairwise_lt_range (List.mem_range.2 hlt) (by simp [hn])
      have e4 : left (listed.setIfInBounds i true) ops.size = xs ++ ys := by
        rw [← e3, left]
        refine List.filter_congr fun j hj => ?_
        by_cases hji : j = i
        · subst hji; simp [hs, hlt]
        · rw [getD_set_ne true (Ne.symm hji)]; simp [hji]
      rw [left, e1] at h
      obtain ⟨v, g1, g2⟩ := Fx.front hoi xs ys a st h fun x hx o hox => by
        rcases ho x i o oi (e2 x hx).1 hox hoi with q | ⟨e, he, rfl, hb⟩
        · exact q
        · have := hed e he (binds_any hb)
          have h2 := (e2 e.on hx).2
          have hlx : e.on < listed.size := by rw [hs]; exact (Array.getElem?_eq_some_iff.1 hox).1
          simp [hlx] at this h2
          rw [this] at h2; cases h2
      obtain ⟨o', ho', g1⟩ := g1
      rw [hoi] at ho'; cases ho'
      refine g1 a st _ (fun _ _ => rfl) (AOps.drawn hK hl ho fuel _ _ _ _ (by simpa using hs) ?_ (by rw [e4]; exact g2))
      rw [e4]
      rw [left, e1] at hf
      simp only [List.length_append, List.length_cons] at hf ⊢
      omega
    · rename_i hnone
      have hr : Region.ready md ops listed = [] := by
        cases hc : Region.ready md ops listed with
        | nil => rfl
        | cons x l =>
          exfalso
          rw [hc] at hnone
          have : t % (x :: l).length < (x :: l).length := Nat.mod_lt _ (by simp)
          rw [List.getElem?_eq_getElem this] at hnone
          first | exact hnone _ rfl | cases hnone
      rw [hdone hr] at h
      exact AOps.nil (hK _ _ h)

/-- The order p keeps to what binds. -/
def topo (md : Region.Mode) (ops : Array Oper) : List Nat → List Nat → Bool
  | _, [] => true
  | seen, i :: l => (match ops[i]? with | some o => o.after.toList.all fun e => !Region.binds md e || (seen.contains e.on && decide (e.on < ops.size)) | none => false) && topo md ops (i :: seen) l

theorem topo_live {md : Region.Mode} : ∀ (l seen : List Nat), topo md ops seen l = true → ∀ listed : Array Bool, listed.size = ops.size → (∀ i ∈ seen, i < ops.size → listed.getD i false = true) → (∃ i ∈ l, listed.getD i true = false) → ∃ i, i ∈ Region.ready md ops listed
  | [], seen, _, listed, _, _, ⟨i, h, _⟩ => by cases h
  | i :: l, seen, ht, listed, hsz, hs, ⟨j, hj, hjn⟩ => by
    simp only [topo, Bool.and_eq_true] at ht
    obtain ⟨ht1, ht2⟩ := ht
    cases hi : listed.getD i true with
    | false =>
      refine ⟨i, mem_ready.2 ⟨hi, ?_⟩⟩
      split at ht1
      · rename_i o ho
        refine ⟨o, ho, fun e he hb => ?_⟩
        have := List.all_eq_true.1 ht1 e (by simpa using he)
        simp only [hb, Bool.not_true, Bool.false_or, Bool.and_eq_true, List.contains_iff_mem, decide_eq_true_eq] at this
        exact hs e.on this.1 this.2
      · cases ht1
    | true =>
      refine topo_live l (i :: seen) ht2 listed hsz (fun k hk hlt => ?_) ⟨j, ?_, hjn⟩
      · simp only [List.mem_cons] at hk
        rcases hk with rfl | hk
        · rcases Nat.lt_or_ge k listed.size with h | h
          · simpa [h] using hi
          · omega
        · exact hs k hk hlt
      · simp only [List.mem_cons] at hj
        rcases hj with rfl | hj
        · rw [hi] at hjn; cases hjn
        · exact hj

theorem live_of {md : Region.Mode} (p : List Nat) (h1 : topo md ops [] p = true) (h2 : (List.range ops.size).all (fun i => p.contains i) = true) : Live md ops := by
  intro listed hs ⟨i, hi⟩ hr
  have hlt : i < ops.size := by
    rw [← hs]
    rcases Nat.lt_or_ge i listed.size with h | h
    · exact h
    · simp [Array.getElem?_eq_none h] at hi
  have hp : i ∈ p := by simpa using List.all_eq_true.1 h2 i (List.mem_range.2 hlt)
  obtain ⟨j, hj⟩ := topo_live p [] h1 listed hs (by simp) ⟨i, hp, hi⟩
  rw [hr] at hj; cases hj

def orderedB (ops : Array Oper) : Bool := (List.range ops.size).all fun j => (List.range j).all fun i =>
  match ops[i]?, ops[j]? with
  | some oi, some oj => oi.apart ops oj || oj.after.toList.any fun e => e.on == i && Region.binds .any e
  | _, _ => true
theorem ordered_of (h : orderedB ops = true) : Ordered ops := by
  intro i j oi oj hij hi hj
  have hlt : j < ops.size := (Array.getElem?_eq_some_iff.1 hj).1
  have := List.all_eq_true.1 (List.all_eq_true.1 h j (List.mem_range.2 hlt)) i (List.mem_range.2 hij)
  simp only [hi, hj, Bool.or_eq_true, List.any_eq_true, Bool.and_eq_true, beq_iff_eq] at this
  rcases this with q | ⟨e, he, q1, q2⟩
  · exact .inl q
  · exact .inr ⟨e, by simpa using he, q1, q2⟩

/-- What is to be checked of a drawn region. -/
def drawnB (ops : Array Oper) (p : List Nat) : Bool :=
  topo .any ops [] (List.range ops.size) && topo .text ops [] (List.range ops.size) && topo .gc ops [] p && (List.range ops.size).all (fun i => p.contains i) && orderedB ops

theorem AW.drawn {id : Nat} {a : AA} {st : St} (p : List Nat) (hb : drawnB ops p = true)
    (h : ∀ (Q' : APost) (Kn : ANext), (∀ x a st, Q x a st → Q' x a st) → (∀ a st, Q .normal a st → Kn a st) → (∀ a st, Kn a st → Q' .normal a st) → Fx E r ops Q' Kn (List.range ops.size) a st) : AW E r (.region id ops true) Q a st := by
  simp only [drawnB, Bool.and_eq_true] at hb
  obtain ⟨⟨⟨⟨b1, b2⟩, b3⟩, b4⟩, b5⟩ := hb
  have hr : (List.range ops.size).all (fun i => (List.range ops.size).contains i) = true := by simp
  have hl : ∀ md, Live md ops := fun md => by
    cases md
    · exact live_of _ b2 hr
    · exact live_of _ b3 b4
    · exact live_of _ b1 hr
  have h0 := h Q (Q .normal) (fun _ _ _ h => h) (fun _ _ h => h) (fun _ _ h => h)
  have hleft : left (Array.replicate ops.size false) ops.size = List.range ops.size := by
    rw [left, List.filter_eq_self]
    intro i hi
    simp [List.mem_range.1 hi]
  have hgo : ∀ md t, AOps E r ops Q (Region.linearise md ops t) a st := fun md t =>
    AOps.drawn (fun _ _ h => h) (hl md) (ordered_of b5) ops.size t _ a st (by simp) (by rw [hleft]; simp) (by rw [hleft]; exact h0)
  refine AW.region_draw fun t => ?_
  unfold Region.schedule
  split
  · exact hgo _ _
  · exact hgo _ _

theorem same_get {o : Oper} {a' a : AA} (h : Same ops o a' a) (x : Operand) (hx : x ∈ o.op.operands.toList) : a'.ev E x = a.ev E x := by
  cases x with
  | tmp t => exact h t (by simp only [Oper.looksAt, List.mem_append, List.mem_filterMap]; exact .inl ⟨_, hx, rfl⟩)
  | _ => rfl

theorem evCs_congr {a' a : AA} : ∀ {l : List Operand}, (∀ x ∈ l, a'.ev E x = a.ev E x) → (evCs E a' l ↔ evCs E a l)
  | [], _ => Iff.rfl
  | x :: l, h => by simp only [evCs, evC, h x (by simp), evCs_congr (l := l) fun y hy => h y (by simp [hy])]

theorem pure1_congr {ev ev' : Operand → AV} (P : Program) (op : Op) (h : ∀ x ∈ op.operands.toList, ev' x = ev x) : pureOp1 P ev' op = pureOp1 P ev op := by
  cases op
  case makeFunc fn fi ca =>
    simp only [Op.operands, Array.toList_append, List.mem_append] at h
    simp only [pureOp1, List.map_congr_left fun x hx => h x (.inl hx), List.map_congr_left fun x hx => h x (.inr hx)]
  case slice t x lo hi mx =>
    have hx : ev' x = ev x := h x (by simp [Op.operands])
    cases mx with
    | some m => rfl
    | none =>
      have hlo : lo.map ev' = lo.map ev := by cases lo with
        | none => rfl
        | some y => simp [h y (by simp [Op.operands])]
      have hhi : hi.map ev' = hi.map ev := by cases hi with
        | none => rfl
        | some y => simp [h y (by simp [Op.operands])]
      simp only [pureOp1, hx, hlo, hhi]
  case call c =>
    have hc : ∀ x ∈ c.args.toList, ev' x = ev x := fun x hx => h x (by simp only [Op.operands, Call.operands, Array.toList_append, List.mem_append]; exact .inr hx)
    simp only [pureOp1, aBuiltin]
    split
    · rename_i h1 h2 _; rw [h2] at hc; rw [hc _ (by simp)]
    · rename_i _ h2; rw [h2] at hc; rw [hc _ (by simp), hc _ (by simp)]
    · rename_i _ h2; rw [h2] at hc; rw [hc _ (by simp), hc _ (by simp)]
    · rfl
  all_goals simp only [pureOp1]
  all_goals
    simp only [Op.operands, List.mem_cons, List.not_mem_nil, or_false, forall_eq_or_imp, forall_eq] at h
    first | rw [h] | rw [h.1, h.2]

theorem pure_congr {a' a : AA} (op : Op) (h : ∀ x ∈ op.operands.toList, a'.ev E x = a.ev E x) {c : Prop} {v : AV} (hp : pureOp E a op = some (c, v)) (hc : c) : ∃ c', pureOp E a' op = some (c', v) ∧ c' := by
  have hu : ∀ x ∈ op.operands.toList, evU E a' x = evU E a x := fun x hx => by simp only [evU, h x hx]
  have h1 := pure1_congr E.P op hu
  have h2 := evCs_congr (l := op.operands.toList) h
  have key : pureOp E a op = (pureOp1 E.P (evU E a) op).map (fun p => (evCs E a op.operands.toList ∧ p.1, p.2)) → pureOp E a' op = (pureOp1 E.P (evU E a') op).map (fun p => (evCs E a' op.operands.toList ∧ p.1, p.2)) → ∃ c', pureOp E a' op = some (c', v) ∧ c' := fun e1 e2 => by
    rw [e1] at hp
    rw [e2, h1]
    cases hq : pureOp1 E.P (evU E a) op with
    | none => rw [hq] at hp; simp at hp
    | some p =>
      rw [hq] at hp
      simp only [Option.map_some, Option.some.injEq, Prod.mk.injEq] at hp
      obtain ⟨rfl, rfl⟩ := hp
      exact ⟨_, rfl, h2.2 hc.1, hc.2⟩
  cases op
  case move x => exact ⟨True, by simp only [pureOp] at hp ⊢; rw [h x (by simp [Op.operands])]; simp_all, trivial⟩
  case assign x => exact ⟨True, by simp only [pureOp] at hp ⊢; rw [h x (by simp [Op.operands])]; simp_all, trivial⟩
  case pick x y z =>
    simp only [pureOp, evU, evC] at hp ⊢
    rw [h x (by simp [Op.operands]), h y (by simp [Op.operands]), h z (by simp [Op.operands])]
    exact ⟨c, hp, hc⟩
  all_goals exact key rfl rfl

theorem Fixed.pure {i : Nat} {o : Oper} {v : AV} {c : Prop} {a : AA} (ho : ops[i]? = some o) (hg : o.guard = none) (hp : pureOp E a o.op = some (c, v)) (hc : c) : Fixed E r ops Q i v a := by
  refine ⟨o, ho, fun a' st rest hs hk => ?_⟩
  obtain ⟨c', h1, h2⟩ := pure_congr o.op (same_get hs) hp hc
  exact AOps.cons ho hg (AOp.pure (pureOp_ok h1 h2) hk)

theorem same_guard {o : Oper} {j d : Nat} {want : Bool} {a' a : AA} (hs : Same ops o a' a) (hg : o.guard = some (j, want)) (hd : (ops[j]?).bind (·.dst) = some d) : a'.get d = a.get d :=
  hs d (by simp only [Oper.looksAt, List.mem_append, hg]; exact .inr (by rw [hd]; simp))

theorem Fixed.guard_pure {i : Nat} {o : Oper} {v : AV} {c : Prop} {a : AA} {j d : Nat} {want g : Bool} (ho : ops[i]? = some o) (hg : o.guard = some (j, want)) (hd : (ops[j]?).bind (·.dst) = some d) (hy : agd (a.get d) want = some g)
    (hp : pureOp E a o.op = some (c, v)) (hc : g = true → c) (hc2 : optC g v) : Fixed E r ops Q i (optV g v) a := by
  refine ⟨o, ho, fun a' st rest hs hk => ?_⟩
  refine AOps.guard_pure ho hg hd (by rw [same_guard hs hg hd]; exact hy) (fun e => ?_) (AOps.opt hc2 hk)
  obtain ⟨c', h1, h2⟩ := pure_congr o.op (same_get hs) hp (hc e)
  exact pureOp_ok h1 h2

theorem ev_congr {o : Oper} {a' a : AA} (hs : Same ops o a' a) {x : Operand} {args : Array Operand} {tys : Array TypeId} (ho : o.op = .call { callee := .value x, args := args, argTypes := tys }) :
    evU E a' x = evU E a x ∧ args.toList.map (evU E a') = args.toList.map (evU E a) ∧ (evCs E a (x :: args.toList) → evCs E a' (x :: args.toList)) := by
  have hall : ∀ y ∈ x :: args.toList, a'.ev E y = a.ev E y := fun y hy => same_get hs y (by rw [ho]; simpa [Op.operands, Call.operands] using hy)
  exact ⟨by simp only [evU, hall x (by simp)], List.map_congr_left fun y hy => by simp only [evU, hall y (by simp [hy])], (evCs_congr hall).2⟩

theorem Fixed.call {i : Nat} {o : Oper} {v : AV} {a : AA} {x : Operand} {f : FuncId} {fi ca : List AV} {args : Array Operand} {tys : Array TypeId} (hi : ops[i]? = some o) (hg : o.guard = none)
    (ho : o.op = .call { callee := .value x, args := args, argTypes := tys }) (hx : evU E a x = .clo (.func f) fi ca) (hcs : evCs E a (x :: args.toList)) (hb : hasBody E.P f = true)
    (h : ∀ st, ACalls E f (fi ++ args.toList.map (evU E a) ++ ca) st fun e st' => st' = st ∧ e = .ret v) : Fixed E r ops Q i v a := by
  refine ⟨o, hi, fun a' st rest hs hk => ?_⟩
  obtain ⟨e1, e2, e3⟩ := ev_congr (E := E) hs ho
  refine AOps.cons hi hg (AOp.call ho (by rw [e1, hx]) (e3 hcs) hb (ACalls.mono (by rw [e2]; exact h st) ?_))
  rintro e st' ⟨rfl, rfl⟩
  exact hk

theorem Fixed.guard_call {i : Nat} {o : Oper} {v : AV} {a : AA} {x : Operand} {f : FuncId} {fi ca : List AV} {args : Array Operand} {tys : Array TypeId} {j d : Nat} {want g : Bool} (hi : ops[i]? = some o) (hg : o.guard = some (j, want)) (hd : (ops[j]?).bind (·.dst) = some d) (hy : agd (a.get d) want = some g)
    (ho : o.op = .call { callee := .value x, args := args, argTypes := tys }) (hx : g = true → evU E a x = .clo (.func f) fi ca) (hcs : g = true → evCs E a (x :: args.toList)) (hb : hasBody E.P f = true)
    (h : g = true → ∀ st, ACalls E f (fi ++ args.toList.map (evU E a) ++ ca) st fun e st' => st' = st ∧ e = .ret v) : Fixed E r ops Q i (.opt g v) a := by
  refine ⟨o, hi, fun a' st rest hs hk => ?_⟩
  obtain ⟨e1, e2, e3⟩ := ev_congr (E := E) hs ho
  refine AOps.guard hi hg hd (by rw [same_guard hs hg hd]; exact hy) (fun e => ?_) (fun e => by subst e; exact AOps.putMono (fun κ cv h => VR_opt_false h) hk)
  subst e
  refine AOp.call ho (by rw [e1, hx rfl]) (e3 (hcs rfl)) hb (ACalls.mono (by rw [e2]; exact h rfl st) ?_)
  rintro e st' ⟨rfl, rfl⟩
  exact AOps.putMono (fun κ cv h => VR_opt_true h) hk

/-- The same, reckoned as far as it only reckons. -/
def FxC (E : Env) (r : Option Nat) (ops : Array Oper) (Q : APost) (Kn : ANext) : List Nat → AA → St → Prop
  | [], a, st => Kn a st
  | i :: rest, a, st =>
    match ops[i]? with
    | none => False
    | some o =>
      match o.guard with
      | none =>
        match pureOp E a o.op with
        | some (c, v) => c ∧ FxC E r ops Q Kn rest (a.put o.dst v) st
        | none => ∃ v, Fixed E r ops Q i v a ∧ Fx E r ops Q Kn rest (a.put o.dst v) st
      | some (j, want) =>
        match (ops[j]?).bind (·.dst) with
        | none => False
        | some d =>
          match agd (a.get d) want with
          | none => False
          | some g =>
            match pureOp E a o.op with
            | some (c, v) => (g = true → c) ∧ optC g v ∧ FxC E r ops Q Kn rest (a.put o.dst (optV g v)) st
            | none => ∃ v, Fixed E r ops Q i v a ∧ Fx E r ops Q Kn rest (a.put o.dst v) st

theorem FxC_ok {Kn : ANext} : ∀ (l : List Nat) (a : AA) (st : St), FxC E r ops Q Kn l a st → Fx E r ops Q Kn l a st
  | [], a, st, h => h
  | i :: rest, a, st, h => by
    simp only [FxC] at h
    split at h
    · exact h.elim
    · rename_i o ho
      have hdst : (ops[i]?).bind (·.dst) = o.dst := by rw [ho]; rfl
      simp only [Fx, hdst]
      split at h
      · rename_i hg
        split at h
        · rename_i c v hp
          exact ⟨v, Fixed.pure ho hg hp h.1, FxC_ok rest _ st h.2⟩
        · exact h
      · rename_i j want hg
        split at h
        · exact h.elim
        · rename_i d hd
          split at h
          · exact h.elim
          · rename_i g hy
            split at h
            · rename_i c v hp
              exact ⟨optV g v, Fixed.guard_pure ho hg hd hy hp h.1 h.2.1, FxC_ok rest _ st h.2.2⟩
            · exact h

attribute [go_sem] FxC
end
end Go.Abs
