/- THE ABSTRACT MEMORY (part 37): a variable that is only read from here on is frozen; a slice of a frozen array. -/
import Derived.Test.YtijffjbfhfjmhaaDoorM3
import Derived.Test.YtijffjbfhfjmhaaDoorM2
/- THE ABSTRACT MEMORY (part 35): arrays that the text writes whole. -/
namespace Go.Abs
open Go.RowKit
set_option linter.unusedSectionVars false
set_option linter.unusedVariables false
set_option linter.unusedSimpArgs false

section
variable {E : Env} {κ : K} {st : St} {w : World} {a : AA} {act : Act} {r : Option Nat} {Q : APost} {Kn : ANext} {o : Oper}

/-- '[n]T{..}', all elements given. -/
theorem AOp.buildArr {t e : TypeId} {n sz : Nat} {parts : Array (Nat × Operand)} {es : List (List AV)} (ho : o.op = .build t parts) (ht : E.P.underlying t = some (.array n e)) (hz : tsz E.P e = some sz) (hzz : hasZero E.P t = some (n * sz))
    (hc : partsC E a parts.toList) (hp : aParts E a 0 parts.toList = some es) (hes : ∀ e ∈ es, e.length = sz) (hlen : es.length = n)
    (h : Kn (a.put o.dst (.agg es.flatten)) st) : AOp E r o Kn Q a st := by
  refine AOp.of_value (s := Sem.halt .blocked) (fun c => by rw [ho]; simp) fun κ w act hR hA => ?_
  obtain ⟨i, zv, hi, hizero, hzsz⟩ := zero_info hzz
  obtain ⟨q1, q2⟩ := parts_ok hR hA parts.toList 0 hp hc hes
  obtain ⟨cells', hf1, hf2, hf3⟩ := fill_ok (κ := κ) (N := n) (sz := sz) (parts.toList.map fun (i, x) => (i, act.eval x)) es [] zv.cells (by simpa using q1) hzsz (by simpa using Nat.le_of_eq hlen) (by simp [VRE])
  have hf1' : Instr.fill (fun i => some (i * sz, sz)) zv.cells (parts.map fun (i, x) => (i, act.eval x)).toList = some cells' := by simpa using hf1
  have hrun : (execOp act.eval o).run E.P w = .ok (.value (.agg cells')) w := by
    simp only [execOp, ho, Instr.build, zeroValue, typeInfo, Sem.run_bind, run_program, hi, hizero, Sem.run_pure, run_underlying ht, run_sz hz, Result.andThen, hf1']
  refine ⟨_, κ, .agg es.flatten, st, w, hrun, K.Le.refl κ, hR, ?_, h⟩
  rw [List.nil_append] at hf3
  obtain ⟨g1, vs, g2, g3, g4⟩ := VRE_flat hf3
  simp only [VR]
  refine ⟨cells', rfl, ?_⟩
  have e : vs = cells'.toList := by
    refine List.ext_getElem? fun j => ?_
    by_cases hj : j < vs.length
    · have := g4 j _ (List.getElem?_eq_getElem hj)
      rw [Nat.zero_add] at this
      rw [List.getElem?_eq_getElem hj, Array.getElem?_toList, this]
    · have hl : cells'.toList.length = vs.length := by rw [Array.length_toList, hf2, g2, hlen]
      rw [List.getElem?_eq_none (by omega), List.getElem?_eq_none (by omega)]
  rw [← e]; exact g3

theorem aLoad_all {P : Program} {st : St} {t t0 : TypeId} {id sz : Nat} {cs : List AV} (hst : st id = some (.cells t0 0 sz [cs])) (hl : cs.length = sz) (ha : aggT P t = some true) (hz : tsz P t = some sz) : ∃ c, aLoad P st t (.ptr id 0 0 0) = some (c, .agg cs) ∧ c := by
  refine ⟨0 = 0 ∧ 0 < 1 ∧ 0 + sz ≤ sz, ?_, rfl, by omega, by omega⟩
  simp only [aLoad, hst, ha, hz, List.length_cons, List.length_nil, List.getD_cons_zero, List.drop_zero]
  rw [List.take_of_length_le (by omega)]
theorem aLoad_one {P : Program} {st : St} {t t0 : TypeId} {id : Nat} {v : AV} (hst : st id = some (.cells t0 0 1 [[v]])) (ha : aggT P t = some false) : ∃ c, aLoad P st t (.ptr id 0 0 0) = some (c, v) ∧ c := by
  refine ⟨0 = 0 ∧ 0 < 1 ∧ 0 < 1, ?_, rfl, by omega, by omega⟩
  simp only [aLoad, hst, ha, List.length_cons, List.length_nil, List.getD_cons_zero]

/-- A variable of many cells, as a whole. -/
theorem AOp.loadAll {t t0 : TypeId} {x : Operand} {id sz : Nat} {cs : List AV} (ho : o.op = .load t x) (hx : evU E a x = .ptr id 0 0 0) (hcs : evC E a x) (hst : st id = some (.cells t0 0 sz [cs])) (hl : cs.length = sz) (ha : aggT E.P t = some true) (hz : tsz E.P t = some sz)
    (h : Kn (a.put o.dst (.agg cs)) st) : AOp E r o Kn Q a st := by
  obtain ⟨c, h1, h2⟩ := aLoad_all (P := E.P) hst hl ha hz
  exact AOp.load ho hcs (by rw [hx]; exact h1) h2 h
theorem AOp.storeAll {t t0 : TypeId} {x y : Operand} {id sz : Nat} {cs old : List AV} (ho : o.op = .store t x y) (hx : evU E a x = .ptr id 0 0 0) (hcs : evCs E a [x, y]) (hst : st id = some (.cells t0 0 sz [old])) (hv : aCells (evU E a y) = some cs) (hone : cs.all isCell = true) (hl : cs.length = sz) (hlo : old.length = sz) (hn : tsz E.P t = some cs.length)
    (h : Kn (a.put o.dst (.tup [])) (st.set id (.cells t0 0 sz [cs]))) : AOp E r o Kn Q a st := by
  refine AOp.store (cs := cs) (es := [old]) (sz := sz) (t0 := t0) ho hx hcs hst hv hone hn (by simp) (by omega) ?_
  have hs : splice old 0 cs = cs := by simp [splice]; omega
  simpa [hs] using h
theorem aRess_cell {P : Program} {a : AA} {st : St} {x t : Nat} {rs : List ResultVar} {v : AV} {vs : List AV} (h1 : ∃ c, aLoad P st t (a.get x) = some (c, v) ∧ c) (h2 : ∃ c, aRess P a st rs = some (c, vs) ∧ c) : ∃ c, aRess P a st (.cell x t :: rs) = some (c, v :: vs) ∧ c := by
  obtain ⟨c, e1, q1⟩ := h1
  obtain ⟨d, e2, q2⟩ := h2
  exact ⟨c ∧ d, by simp only [aRess, aRes1, e1, e2], q1, q2⟩
theorem aRess_tmp {P : Program} {a : AA} {st : St} {x : Nat} {rs : List ResultVar} {vs : List AV} (h2 : ∃ c, aRess P a st rs = some (c, vs) ∧ c) : ∃ c, aRess P a st (.tmp x :: rs) = some (c, a.get x :: vs) ∧ c := by
  obtain ⟨d, e2, q2⟩ := h2
  exact ⟨True ∧ d, by simp only [aRess, aRes1, e2], trivial, q2⟩
theorem aRess_nil {P : Program} {a : AA} {st : St} : ∃ c, aRess P a st [] = some (c, []) ∧ c := ⟨True, rfl, trivial⟩
/-- A function is left, its results as lemmas tell them. -/
theorem ABody.ofRess {fn : Func} {R : AEnd → St → Prop} {a : AA} {st : St} {vs : List AV} (hd : a.ds = []) (h : ∃ c, aRess E.P a st fn.results.toList = some (c, vs) ∧ c) (hR : R (.ret (aTup vs)) st) : ABody E fn R .ret a st := by
  obtain ⟨c, h1, h2⟩ := h
  simp only [ABody, hd, ALeave]
  exact ⟨c, vs, h1, h2, hR⟩

theorem ARound.exit {l i : Nat} {Kn : AV → St → Prop} {a : AA} {st : St} {s p fn tm ps asg body d} (h : st l = some (.loop s p fn tm ps asg body d)) (hk : Kn (.bool false) (st.set l (.loop .done (some (.exit i)) fn tm ps asg body d))) : ARound l Kn (.exit i) a st := by
  simp only [ARound, h]; exact hk
theorem ARound.ret {l : Nat} {Kn : AV → St → Prop} {a : AA} {st : St} {s p fn tm ps asg body d} (h : st l = some (.loop s p fn tm ps asg body d)) (hk : Kn (.bool false) (st.set l (.loop .done (some .ret) fn tm ps asg body d))) : ARound l Kn .ret a st := by
  simp only [ARound, h]; exact hk
end
end Go.Abs

/- THE ABSTRACT MEMORY (part 36): the same as part 33, while looks may wait too, where what is written keeps what they look at. -/
namespace Go.Abs
open Go.RowKit
set_option linter.unusedSectionVars false
set_option linter.unusedVariables false
set_option linter.unusedSimpArgs false

section
variable {E : Env} {r : Option Nat} {Q : APost} {ops : Array Oper}

def FxN (E : Env) (r : Option Nat) (ops : Array Oper) (Q : APost) (n : Nat) (B : List Nat) (I : St → Prop) (Kn : ANext) : List Nat → AA → St → Prop
  | [], a, st => Kn a st
  | i :: l, a, st =>
    (B.contains i = false ∧ ∃ v, Fixed E r ops Q i v a st ∧ (late ops n B i = true → ∀ st', I st' → Fixed E r ops Q i v a st') ∧ FxN E r ops Q n B I Kn l (a.put ((ops[i]?).bind (·.dst)) v) st) ∨
    (B.contains i = true ∧ ∃ R, Moves E r ops Q i R a st ∧ ∀ v st', R v st' → I st' ∧ FxN E r ops Q n B I Kn l (a.put ((ops[i]?).bind (·.dst)) v) st')

/-- What is ready, and only reckons or looks, goes to the front. -/
theorem FxN.front {n : Nat} {B : List Nat} {I : St → Prop} {Kn : ANext} {i : Nat} {oi : Oper} (hi : ops[i]? = some oi) (hiB : B.contains i = false) : ∀ (xs ys : List Nat) (a : AA) (st : St), FxN E r ops Q n B I Kn (xs ++ i :: ys) a st → (∀ x ∈ xs, ∀ o, ops[x]? = some o → o.apart ops oi = true) → (∀ x ∈ xs, B.contains x = false) →
    ∃ v, Fixed E r ops Q i v a st ∧ (late ops n B i = true → ∀ st', I st' → Fixed E r ops Q i v a st') ∧ FxN E r ops Q n B I Kn (xs ++ ys) (a.put oi.dst v) st
  | [], ys, a, st, h, _, _ => by
    rcases h with ⟨_, v, h1, h2, h3⟩ | ⟨hb, _⟩
    · rw [hi] at h3; exact ⟨v, h1, h2, h3⟩
    · rw [hiB] at hb; cases hb
  | x :: xs, ys, a, st, h, hx, hxb => by
    rcases h with ⟨hxB, u, h1, h1l, h2⟩ | ⟨hb, _⟩
    · have h1' := h1
      obtain ⟨ox, hox, _⟩ := h1'
      obtain ⟨p1, p2, p3⟩ := Oper.apart_spec (hx x (by simp) ox hox)
      rw [hox] at h2
      obtain ⟨v, g1, g1l, g2⟩ := FxN.front hi hiB xs ys _ st h2 (fun y hy => hx y (by simp [hy])) (fun y hy => hxb y (by simp [hy]))
      have s1 : ∀ t ∈ oi.looksAt ops, a.get t = (a.put ((some ox).bind (·.dst)) u).get t := fun t ht => (get_put_ne fun d hd e => p1 d hd (e ▸ ht)).symm
      have s2 : ∀ t ∈ ox.looksAt ops, (a.put oi.dst v).get t = a.get t := fun t ht => get_put_ne fun d hd e => p3 d hd (e ▸ ht)
      refine ⟨v, g1.congr hi s1, fun hl st' hI => (g1l hl st' hI).congr hi s1, .inl ⟨hxB, u, h1.congr hox s2, fun hl st' hI => (h1l hl st' hI).congr hox s2, ?_⟩⟩
      rw [hox]
      show FxN E r ops Q n B I Kn (xs ++ ys) ((a.put oi.dst v).put ox.dst u) st
      rw [← put_comm a u v p2]
      exact g2
    · rw [hxb x (by simp)] at hb; cases hb

/-- What changes memory goes to the front over what may wait. -/
theorem FxN.frontM {n : Nat} {B : List Nat} {I : St → Prop} {Kn : ANext} {i : Nat} {oi : Oper} (hi : ops[i]? = some oi) (hiB : B.contains i = true) : ∀ (xs ys : List Nat) (a : AA) (st : St), FxN E r ops Q n B I Kn (xs ++ i :: ys) a st → (∀ x ∈ xs, ∀ o, ops[x]? = some o → o.apart ops oi = true) → (∀ x ∈ xs, B.contains x = false) → (∀ x ∈ xs, late ops n B x = true) →
    ∃ R, Moves E r ops Q i R a st ∧ ∀ v st', R v st' → I st' ∧ FxN E r ops Q n B I Kn (xs ++ ys) (a.put oi.dst v) st'
  | [], ys, a, st, h, _, _, _ => by
    rcases h with ⟨hb, _⟩ | ⟨_, R, h1, h2⟩
    · rw [hiB] at hb; cases hb
    · rw [hi] at h2; exact ⟨R, h1, h2⟩
  | x :: xs, ys, a, st, h, hx, hxb, hxl => by
    rcases h with ⟨hxB, u, h1, h1l, h2⟩ | ⟨hb, _⟩
    · have h1' := h1
      obtain ⟨ox, hox, _⟩ := h1'
      obtain ⟨p1, p2, p3⟩ := Oper.apart_spec (hx x (by simp) ox hox)
      rw [hox] at h2
      obtain ⟨R, g1, g2⟩ := FxN.frontM hi hiB xs ys _ st h2 (fun y hy => hx y (by simp [hy])) (fun y hy => hxb y (by simp [hy])) (fun y hy => hxl y (by simp [hy]))
      have s1 : ∀ t ∈ oi.looksAt ops, a.get t = (a.put ((some ox).bind (·.dst)) u).get t := fun t ht => (get_put_ne fun d hd e => p1 d hd (e ▸ ht)).symm
      refine ⟨R, g1.congr hi s1, fun v st' hR => ⟨(g2 v st' hR).1, .inl ⟨hxB, u, ?_, fun hl st'' hI => ?_, ?_⟩⟩⟩
      · exact (h1l (hxl x (by simp)) st' (g2 v st' hR).1).congr hox fun t ht => get_put_ne fun d hd e => p3 d hd (e ▸ ht)
      · exact (h1l hl st'' hI).congr hox fun t ht => get_put_ne fun d hd e => p3 d hd (e ▸ ht)
      · rw [hox]
        show FxN E r ops Q n B I Kn (xs ++ ys) ((a.put oi.dst v).put ox.dst u) st'
        rw [← put_comm a u v p2]
        exact (g2 v st' hR).2
    · rw [hxb x (by simp)] at hb; cases hb

theorem AOps.drawnN {md : Region.Mode} {n : Nat} {B : List Nat} {I : St → Prop} {Kn : ANext} (hB : ordM ops n B = true) (hK : ∀ a st, Kn a st → Q .normal a st) (hl : Live md ops) (ho : Ordered ops) : ∀ (fuel t : Nat) (listed : Array Bool) (a : AA) (st : St), listed.size = ops.size → Down ops listed → (left listed ops.size).length ≤ fuel →
    FxN E r ops Q n B I Kn (left listed ops.size) a st → AOps E r ops Q (Region.linearise.go md ops fuel t listed []) a st
  | 0, t, listed, a, st, hs, hdn, hf, h => by
    have : left listed ops.size = [] := List.eq_nil_of_length_eq_zero (by omega)
    rw [this] at h
    exact AOps.nil (hK _ _ h)
  | fuel + 1, t, listed, a, st, hs, hdn, hf, h => by
    have hdone : Region.ready md ops listed = [] → left listed ops.size = [] := fun hr => by
      apply List.eq_nil_iff_forall_not_mem.2
      intro i hi
      simp only [left, List.mem_filter, Bool.not_eq_true'] at hi
      exact hl listed hs ⟨i, hi.2⟩ hr
    have hgo : Region.linearise.go md ops (fuel + 1) t listed [] = match (Region.ready md ops listed)[t % (Region.ready md ops listed).length]? with
        | some i => i :: Region.linearise.go md ops fuel (t / (Region.ready md ops listed).length) (listed.setIfInBounds i true) []
        | .none => [] := by
      simp only [Region.linearise.go, Region.ready]
      split
      · rename_i heq
        rw [linearise_go_acc, heq]; rfl
      · rename_i heq
        rw [heq]; rfl
    rw [hgo]
    split
    · rename_i i hi
      have hmem := List.mem_of_getElem? hi
      obtain ⟨hn, oi, hoi, hed⟩ := mem_ready.1 hmem
      have hlt : i < ops.size := (Array.getElem?_eq_some_iff.1 hoi).1
      obtain ⟨xs, ys, e1, e2, e3⟩ := filter_split (p := fun i => !listed.getD i true) (l := List.range ops.size) List.pairwise_lt_range (List.mem_range.2 hlt) (by simp [hn])
      have e4 : left (listed.setIfInBounds i true) ops.size = xs ++ ys := by
        rw [← e3, left]
        refine List.filter_congr fun j hj => ?_
        by_cases hji : j = i
        · subst hji; simp [hs, hlt]
        · rw [getD_set_ne true (Ne.symm hji)]; simp [hji]
      have hdir : ∀ j ∈ direct ops i, listed.getD j false = true := fun j hj => by
        simp only [direct, hoi, List.mem_map, List.mem_filter] at hj
        obtain ⟨e, ⟨he, hb⟩, rfl⟩ := hj
        exact hed e (by simpa using he) (binds_any hb)
      have hdn' : Down ops (listed.setIfInBounds i true) := fun k hk j hj => by
        by_cases hki : k = i
        · subst hki; exact getD_set_true (hdir j hj)
        · rw [getD_set_ne false (Ne.symm hki)] at hk
          exact getD_set_true (hdn k hk j hj)
      have hun : ∀ x ∈ xs, listed.getD x false = false := fun x hx => by
        have h2 := (e2 x hx).2
        have : x < listed.size := by rw [hs]; have := (e2 x hx).1; omega
        simpa [this] using h2
      have hclos : ∀ x ∈ xs, (clos ops n i).contains x = false := fun x hx => by
        cases hc : (clos ops n i).contains x with
        | false => rfl
        | true =>
          have := clos_listed hdn n i hdir x (by simpa using hc)
          rw [hun x hx] at this; cases this
      rw [left, e1] at h
      have hlen' : (xs ++ ys).length ≤ fuel := by
        rw [left, e1] at hf
        simp only [List.length_append, List.length_cons] at hf ⊢
        omega
      have hapart : ∀ x ∈ xs, ∀ o, ops[x]? = some o → o.apart ops oi = true := fun x hx o hox => by
        rcases ho x i o oi (e2 x hx).1 hox hoi with q | ⟨e, he, rfl, hb⟩
        · exact q
        · have := hed e he (binds_any hb)
          rw [hun e.on hx] at this; cases this
      have hxB : ∀ x ∈ xs, B.contains x = false := fun x hx => by
        cases hb : B.contains x with
        | false => rfl
        | true =>
          exfalso
          have h1 := List.all_eq_true.1 hB x (by simpa using hb)
          rw [Bool.and_eq_true] at h1
          have h2 := List.all_eq_true.1 h1.2 i (List.mem_range.2 hlt)
          have hxi := (e2 x hx).1
          have h3 := (Bool.or_eq_true _ _).mp h2
          rcases h3 with h3 | h3
          · rw [ahead, if_neg (by omega), hclos x hx, Bool.or_false, beq_iff_eq] at h3; omega
          · have := of_decide_eq_true h3; omega
      cases hiB : B.contains i with
      | false =>
        obtain ⟨v, g1, _, g2⟩ := FxN.front hoi hiB xs ys a st h hapart hxB
        obtain ⟨o', ho', g1⟩ := g1
        rw [hoi] at ho'; cases ho'
        exact g1 a _ (fun _ _ => rfl) (AOps.drawnN hB hK hl ho fuel _ _ _ _ (by simpa using hs) hdn' (by rw [e4]; exact hlen') (by rw [e4]; exact g2))
      | true =>
        have hlate : ∀ x ∈ xs, late ops n B x = true := fun x hx => by
          refine List.any_eq_true.2 ⟨i, by simpa using hiB, ?_⟩
          have hxi := (e2 x hx).1
          have : (i == x) = false := by simp; omega
          simp only [ahead, this, Bool.false_or, if_pos hxi, hclos x hx, Bool.not_false]
        obtain ⟨R, g1, g2⟩ := FxN.frontM hoi hiB xs ys a st h hapart hxB hlate
        obtain ⟨o', ho', g1⟩ := g1
        rw [hoi] at ho'; cases ho'
        exact g1 a _ (fun _ _ => rfl) fun v st' hR => AOps.drawnN hB hK hl ho fuel _ _ _ _ (by simpa using hs) hdn' (by rw [e4]; exact hlen') (by rw [e4]; exact (g2 v st' hR).2)
    · rename_i hnone
      have hr : Region.ready md ops listed = [] := by
        cases hc : Region.ready md ops listed with
        | nil => rfl
        | cons x l =>
          exfalso
          rw [hc] at hnone
          have : t % (x :: l).length < (x :: l).length := Nat.mod_lt _ (by simp)
          rw [List.getElem?_eq_getElem this] at hnone
          first | exact hnone _ rfl | cases hnone
      rw [hdone hr] at h
      exact AOps.nil (hK _ _ h)

/-- A drawn region: B: the operations that change memory. -/
theorem AW.drawnN {id : Nat} {a : AA} {st : St} (n : Nat) (B p : List Nat) (I : St → Prop) (hb : (Go.Abs.drawnB ops p && ordM ops n B) = true)
    (h : ∀ (Q' : APost) (Kn : ANext), (∀ x a st, Q x a st → Q' x a st) → (∀ a st, Q .normal a st → Kn a st) → (∀ a st, Kn a st → Q' .normal a st) → FxN E r ops Q' n B I Kn (List.range ops.size) a st) : AW E r (.region id ops true) Q a st := by
  rw [Bool.and_eq_true] at hb
  obtain ⟨hb, hB⟩ := hb
  simp only [Go.Abs.drawnB, Bool.and_eq_true] at hb
  obtain ⟨⟨⟨⟨b1, b2⟩, b3⟩, b4⟩, b5⟩ := hb
  have hr : (List.range ops.size).all (fun i => (List.range ops.size).contains i) = true := by simp
  have hl : ∀ md, Live md ops := fun md => by
    cases md
    · exact live_of _ b2 hr
    · exact live_of _ b3 b4
    · exact live_of _ b1 hr
  have h0 := h Q (Q .normal) (fun _ _ _ h => h) (fun _ _ h => h) (fun _ _ h => h)
  have hleft : left (Array.replicate ops.size false) ops.size = List.range ops.size := by
    rw [left, List.filter_eq_self]
    intro i hi
    simp [List.mem_range.1 hi]
  have hgo : ∀ md t, AOps E r ops Q (Region.linearise md ops t) a st := fun md t =>
    AOps.drawnN hB (fun _ _ h => h) (hl md) (ordered_of b5) ops.size t _ a st (by simp) (fun k hk => by exfalso; by_cases hk2 : k < ops.size <;> simp [Array.getElem?_replicate, hk2] at hk) (by rw [hleft]; simp) (by rw [hleft]; exact h0)
  refine AW.region_draw fun t => ?_
  unfold Region.schedule
  split
  · exact hgo _ _
  · exact hgo _ _

/-- The same, reckoned as far as it only reckons. -/
def FxNC (E : Env) (r : Option Nat) (ops : Array Oper) (Q : APost) (n : Nat) (B : List Nat) (I : St → Prop) (Kn : ANext) : List Nat → AA → St → Prop
  | [], a, st => Kn a st
  | i :: rest, a, st =>
    match ops[i]? with
    | none => False
    | some o =>
      match o.guard with
      | none =>
        match pureOp E a o.op with
        | some (c, v) => c ∧ FxNC E r ops Q n B I Kn rest (a.put o.dst v) st
        | none => FxN E r ops Q n B I Kn (i :: rest) a st
      | some _ => FxN E r ops Q n B I Kn (i :: rest) a st

theorem FxNC_ok {n : Nat} {B : List Nat} {I : St → Prop} {Kn : ANext} (hno : ∀ i ∈ B, ∀ a o, ops[i]? = some o → pureOp E a o.op = none) : ∀ (l : List Nat) (a : AA) (st : St), FxNC E r ops Q n B I Kn l a st → FxN E r ops Q n B I Kn l a st
  | [], a, st, h => h
  | i :: rest, a, st, h => by
    simp only [FxNC] at h
    split at h
    · exact h.elim
    · rename_i o ho
      have hdst : (ops[i]?).bind (·.dst) = o.dst := by rw [ho]; rfl
      split at h
      · rename_i hg
        split at h
        · rename_i c v hp
          have hiB : B.contains i = false := by
            cases hb : B.contains i with
            | false => rfl
            | true => rw [hno i (by simpa using hb) a o ho] at hp; cases hp
          exact .inl ⟨hiB, v, Fixed.pure ho hg hp h.1, fun _ _ _ => Fixed.pure ho hg hp h.1, by rw [hdst]; exact FxNC_ok hno rest _ st h.2⟩
        · exact h
      · exact h

theorem FxN.fixed {n : Nat} {B : List Nat} {I : St → Prop} {Kn : ANext} {i : Nat} {rest : List Nat} {a : AA} {st : St} {v : AV} (hb : (!B.contains i && !late ops n B i) = true) (h : Fixed E r ops Q i v a st) (hk : FxN E r ops Q n B I Kn rest (a.put ((ops[i]?).bind (·.dst)) v) st) : FxN E r ops Q n B I Kn (i :: rest) a st := by
  simp only [Bool.and_eq_true, Bool.not_eq_true'] at hb
  exact .inl ⟨hb.1, v, h, fun hl => (by rw [hb.2] at hl; cases hl), hk⟩
theorem FxN.moves {n : Nat} {B : List Nat} {I : St → Prop} {Kn : ANext} {i : Nat} {rest : List Nat} {a : AA} {st : St} {R : AV → St → Prop} (hb : B.contains i = true) (h : Moves E r ops Q i R a st) (hk : ∀ v st', R v st' → I st' ∧ FxN E r ops Q n B I Kn rest (a.put ((ops[i]?).bind (·.dst)) v) st') : FxN E r ops Q n B I Kn (i :: rest) a st := .inr ⟨hb, R, h, hk⟩


theorem FxN.wait {n : Nat} {B : List Nat} {I : St → Prop} {Kn : ANext} {i : Nat} {rest : List Nat} {a : AA} {st : St} {v : AV} (hb : B.contains i = false) (h0 : I st) (h : ∀ st', I st' → Fixed E r ops Q i v a st') (hk : FxN E r ops Q n B I Kn rest (a.put ((ops[i]?).bind (·.dst)) v) st) : FxN E r ops Q n B I Kn (i :: rest) a st :=
  .inl ⟨hb, v, h st h0, fun _ st' hI => h st' hI, hk⟩
theorem Moves.storeAll {i : Nat} {o : Oper} {a : AA} {st : St} {t t0 : TypeId} {x y : Operand} {id sz : Nat} {cs old : List AV} (hi : ops[i]? = some o) (hg : o.guard = none) (ho : o.op = .store t x y) (hx : evU E a x = .ptr id 0 0 0) (hcs : evCs E a [x, y]) (hst : st id = some (.cells t0 0 sz [old])) (hv : aCells (evU E a y) = some cs) (hone : cs.all isCell = true) (hl : cs.length = sz) (hlo : old.length = sz) (hn : tsz E.P t = some cs.length) :
    Moves E r ops Q i (fun v st' => v = .tup [] ∧ st' = st.set id (.cells t0 0 sz [cs])) a st :=
  Moves.of hi hg fun a' Kn hs hk => by
    have e1 := same_get (E := E) hs x (by rw [ho]; simp [Op.operands])
    have e2 := same_get (E := E) hs y (by rw [ho]; simp [Op.operands])
    exact AOp.storeAll ho (by simp only [evU, e1]; exact hx) (by simp only [evCs, evC, e1, e2] at hcs ⊢; exact hcs) hst (by simp only [evU, e2]; exact hv) hone hl hlo hn (hk _ _ ⟨rfl, rfl⟩)
theorem ABody.ofRess1 {fn : Func} {R : AEnd → St → Prop} {a : AA} {st : St} {vs : List AV} {d : Nat} (hd : a.ds = [.collected d]) (hst : st d = some (.dfr true)) (h : ∃ c, aRess E.P a (st.set d (.dfr false)) fn.results.toList = some (c, vs) ∧ c) (hR : R (.ret (aTup vs)) (st.set d (.dfr false))) : ABody E fn R .ret a st := by
  obtain ⟨c, h1, h2⟩ := h
  simp only [ABody, hd, ALeave]
  exact ⟨hst, c, vs, h1, h2, hR⟩
attribute [go_sem] FxNC
end
end Go.Abs

/- THE ABSTRACT MEMORY (part 37): a variable that is only read from here on is frozen; a slice of a frozen array. -/
namespace Go.Abs
open Go.RowKit
set_option linter.unusedSectionVars false
set_option linter.unusedVariables false

section
variable {E : Env} {κ : K} {st : St} {w : World} {a : AA} {act : Act} {r : Option Nat} {Q : APost} {ops : Array Oper}

/-- The block behind a temporary is never written again. -/
theorem AW.freeze {c : Code} (t : Nat) {id sz : Nat} {t0 : TypeId} {cs : List AV} (ht : a.get t = .ptr id 0 0 0) (hst : st id = some (.cells t0 0 sz [cs])) (h : AW E r c Q (a.put (some t) (.fptr cs)) (st.del id)) : AW E r c Q a st := by
  intro κ w act rd hR hA hr
  have hK := K.le_freeze hR (st.del id)
  have hR' := hR.freeze (St.del_sub st id)
  obtain ⟨L, hL, hB, _, _⟩ := hR.dom id _ hst
  obtain ⟨e1, e2, hl, hm', cc, fr, hh, hsz, hfr, hE⟩ := hB
  have hfz : ∀ o, (κ.freeze st (st.del id) w).fz L.b o = cc[o]? := by
    intro o
    simp only [K.freeze]
    rw [if_pos ⟨id, L, by simp [hst], by simp [St.del], hL, rfl⟩]
    exact cell_of_cells hh o
  have hF : VRF (κ.freeze st (st.del id) w) ((κ.freeze st (st.del id) w).fz L.b) cs 0 := by
    simp only [VRE] at hE
    exact VRF.mono hK cs _ _ (fun o v hv => by rw [hfz]; exact hv) 0 hE.2.1
  have hcv : VR κ (.ptr id 0 0 0) (act.tmps.toList.getD t undef) := by
    have := VRs_getD hA.t t
    rw [← ht]; exact this
  have hnew : VR (κ.freeze st (st.del id) w) (.fptr cs) (act.tmps.toList.getD t undef) := by
    simp only [VR] at hcv ⊢
    obtain ⟨ad, L', hv, hL', _, ha⟩ := hcv
    rw [hL] at hL'; cases hL'
    have := ha e1
    subst this
    exact ⟨L.b, 0 * L.sz + 0, by rw [hv], by simpa using hF⟩
  have hA' := (hA.mono hK).put (some t) hnew
  have hact : act.put (some t) (act.tmps.toList.getD t undef) = act := by
    have : act.tmps.setIfInBounds t (act.tmps.toList.getD t undef) = act.tmps := by
      refine Array.toList_inj.1 ?_
      refine List.ext_getElem? fun i => ?_
      rw [Array.toList_setIfInBounds, List.getElem?_set]
      split
      · rename_i e
        subst e
        split
        · rename_i hi
          simp [List.getD, List.getElem?_eq_getElem hi]
        · rename_i hi
          rw [List.getElem?_eq_none (by omega)]
      · rfl
    simp only [Act.put, this]
  rw [hact] at hA'
  exact wpIn_mono (h _ w act rd hR' hA' (hr.mono hK)) fun _ _ _ hu => upX_le hK (fun _ _ _ h => h) hu

/-- Two branches meet: what stays is told. -/
theorem AW.cut {c c2 : Code} {Q2 Q3 : APost} (F : List AV) (h1 : AW E r c (fun x a' st' => x = .normal ∧ Weak a'.tm F ∧ a'.ds = a.ds ∧ st' = st) a st) (h2 : AW E r c2 Q2 { tm := F, ds := a.ds } st) : AW E r c (AThen (AW E r c2 Q2) Q3) a st :=
  AW.mono h1 fun x a' st' h => by
    obtain ⟨rfl, hw, hd, rfl⟩ := h
    exact AW.weak hw (by rw [hd]; exact h2)

theorem VRE_ones {rd : Nat → Option Value} : ∀ {cs : List AV} {o : Nat}, VRF κ rd cs o → VRE κ rd 1 (cs.map fun c => [c]) o
  | [], _, _ => by simp [VRE]
  | c :: cs, o, h => by
    simp only [VRF] at h
    simp only [List.map_cons, VRE, VRF, and_true]
    exact ⟨rfl, h.1, VRE_ones h.2⟩

/-- The whole of a frozen array, as a slice. -/
theorem Fixed.sliceArr {i : Nat} {o : Oper} {t e : TypeId} {x : Operand} {n : Nat} {cs : List AV} (hi : ops[i]? = some o) (hg : o.guard = none) (ho : o.op = .slice t x none none none) (hx : evU E a x = .fptr cs) (hcs : evC E a x) (ht : E.P.underlying t = some (.array n e)) (hz : tsz E.P e = some 1) (hn : cs.length = n) :
    Fixed E r ops Q i (.tree 1 (cs.map fun c => [c])) a st := by
  refine Fixed.pv hi hg fun a' hs => ?_
  have e1 : a'.ev E x = a.ev E x := same_get hs x (by rw [ho]; simp [Op.operands])
  intro κ st w act hR hA
  refine ⟨fun c => by rw [ho]; simp, ?_⟩
  have hvx := unO_ok (hA.ev hR x) (by rw [e1]; exact hcs)
  rw [show unO (a'.ev E x) = evU E a x from by rw [e1]; rfl, hx] at hvx
  simp only [VR] at hvx
  obtain ⟨b, of, hv, hF⟩ := hvx
  refine ⟨.slice (some ⟨b, of, none⟩) n n, ?_, ?_⟩
  · simp [execOp, ho, Instr.sliceAt, Instr.sureAddr, Instr.sliceBounds, hv, run_underlying ht, run_sz hz, Result.andThen]
    intro _; rfl
  · simp only [VR]
    exact ⟨b, of, n, by simp [hn], by simp [hn], VRE_ones hF⟩
end
end Go.Abs
