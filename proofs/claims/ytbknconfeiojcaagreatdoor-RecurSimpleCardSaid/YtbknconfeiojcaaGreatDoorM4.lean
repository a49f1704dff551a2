/- THE ABSTRACT MEMORY (part 60): arguments that are told as others. -/
import Derived.Test.YtbknconfeiojcaaGreatDoorM3
import Derived.Test.YtbknconfeiojcaaGreatDoorM2
import Derived.Test.YtbknconfeiojcaaGreatDoorRows
import Derived.ChangeBears
import Derived.WideKeyArgs
import Derived.RangeFuncNested
import Derived.Lib.OthersKept
import Derived.Test.YtbknconfeiojcaaGreatDoorM1
set_option linter.unusedSimpArgs false
set_option linter.unusedVariables false
set_option linter.unusedSectionVars false
set_option maxRecDepth 10000
set_option maxHeartbeats 1000000
/- THE ABSTRACT MEMORY (part 35): arrays that the text writes whole. -/
namespace Go.Abs
open Go.RowKit
section
variable {E : Env} {κ : K} {st : St} {w : World} {a : AA} {act : Act} {r : Option Nat} {Q : APost} {Kn : ANext} {o : Oper}
theorem AOp.buildArr {t e : TypeId} {n sz : Nat} {parts : Array (Nat × Operand)} {es : List (List AV)} (ho : o.op = .build t parts) (ht : E.P.underlying t = some (.array n e)) (hz : tsz E.P e = some sz) (hzz : hasZero E.P t = some (n * sz))
    (hc : partsC E a parts.toList) (hp : aParts E a 0 parts.toList = some es) (hes : ∀ e ∈ es, e.length = sz) (hlen : es.length = n)
    (h : Kn (a.put o.dst (.agg es.flatten)) st) : AOp E r o Kn Q a st := by
  refine AOp.of_value (s := Sem.halt .blocked) (fun c => by rw [ho]; simp) fun κ w act hR hA => ?_
  obtain ⟨i, zv, hi, hizero, hzsz⟩ := zero_info hzz
  obtain ⟨q1, q2⟩ := parts_ok hR hA parts.toList 0 hp hc hes
  obtain ⟨cells', hf1, hf2, hf3⟩ := fill_ok (κ := κ) (N := n) (sz := sz) (parts.toList.map fun (i, x) => (i, act.eval x)) es [] zv.cells (by simpa using q1) hzsz (by simpa using Nat.le_of_eq hlen) (by simp [VRE])
  have hf1' : Instr.fill (fun i => some (i * sz, sz)) zv.cells (parts.map fun (i, x) => (i, act.eval x)).toList = some cells' := by simpa using hf1
  have hrun : (execOp act.eval o).run E.P w = .ok (.value (.agg cells')) w := by
    simp only [execOp, ho, Instr.build, zeroValue, typeInfo, Sem.run_bind, run_program, hi, hizero, Sem.run_pure, run_underlying ht, run_sz hz, Result.andThen, hf1']
  refine ⟨_, κ, .agg es.flatten, st, w, hrun, K.Le.refl κ, hR, ?_, h⟩
  rw [List.nil_append] at hf3
  obtain ⟨g1, vs, g2, g3, g4⟩ := VRE_flat hf3
  simp only [VR]
  refine ⟨cells', rfl, ?_⟩
  have e : vs = cells'.toList := by
    refine List.ext_getElem? fun j => ?_
    by_cases hj : j < vs.length
    · have := g4 j _ (List.getElem?_eq_getElem hj)
      rw [Nat.zero_add] at this
      rw [List.getElem?_eq_getElem hj, Array.getElem?_toList, this]
    · have hl : cells'.toList.length = vs.length := by rw [Array.length_toList, hf2, g2, hlen]
      rw [List.getElem?_eq_none (by omega), List.getElem?_eq_none (by omega)]
  rw [← e]; exact g3
theorem aLoad_all {P : Program} {st : St} {t t0 : TypeId} {id sz : Nat} {cs : List AV} (hst : st id = some (.cells t0 0 sz [cs])) (hl : cs.length = sz) (ha : aggT P t = some true) (hz : tsz P t = some sz) : ∃ c, aLoad P st t (.ptr id 0 0 0) = some (c, .agg cs) ∧ c := by
  refine ⟨0 = 0 ∧ 0 < 1 ∧ 0 + sz ≤ sz, ?_, rfl, by omega, by omega⟩
  simp only [aLoad, hst, ha, hz, List.length_cons, List.length_nil, List.getD_cons_zero, List.drop_zero]
  rw [List.take_of_length_le (by omega)]
theorem aLoad_one {P : Program} {st : St} {t t0 : TypeId} {id : Nat} {v : AV} (hst : st id = some (.cells t0 0 1 [[v]])) (ha : aggT P t = some false) : ∃ c, aLoad P st t (.ptr id 0 0 0) = some (c, v) ∧ c := by
  refine ⟨0 = 0 ∧ 0 < 1 ∧ 0 < 1, ?_, rfl, by omega, by omega⟩
  simp only [aLoad, hst, ha, List.length_cons, List.length_nil, List.getD_cons_zero]
theorem AOp.loadAll {t t0 : TypeId} {x : Operand} {id sz : Nat} {cs : List AV} (ho : o.op = .load t x) (hx : evU E a x = .ptr id 0 0 0) (hcs : evC E a x) (hst : st id = some (.cells t0 0 sz [cs])) (hl : cs.length = sz) (ha : aggT E.P t = some true) (hz : tsz E.P t = some sz)
    (h : Kn (a.put o.dst (.agg cs)) st) : AOp E r o Kn Q a st := by
  obtain ⟨c, h1, h2⟩ := aLoad_all (P := E.P) hst hl ha hz
  exact AOp.load ho hcs (by rw [hx]; exact h1) h2 h
theorem AOp.storeAll {t t0 : TypeId} {x y : Operand} {id sz : Nat} {cs old : List AV} (ho : o.op = .store t x y) (hx : evU E a x = .ptr id 0 0 0) (hcs : evCs E a [x, y]) (hst : st id = some (.cells t0 0 sz [old])) (hv : aCells (evU E a y) = some cs) (hone : cs.all isCell = true) (hl : cs.length = sz) (hlo : old.length = sz) (hn : tsz E.P t = some cs.length)
    (h : Kn (a.put o.dst (.tup [])) (st.set id (.cells t0 0 sz [cs]))) : AOp E r o Kn Q a st := by
  refine AOp.store (cs := cs) (es := [old]) (sz := sz) (t0 := t0) ho hx hcs hst hv hone hn (by simp) (by omega) ?_
  have hs : splice old 0 cs = cs := by simp [splice]; omega
  simpa [hs] using h
theorem aRess_cell {P : Program} {a : AA} {st : St} {x t : Nat} {rs : List ResultVar} {v : AV} {vs : List AV} (h1 : ∃ c, aLoad P st t (a.get x) = some (c, v) ∧ c) (h2 : ∃ c, aRess P a st rs = some (c, vs) ∧ c) : ∃ c, aRess P a st (.cell x t :: rs) = some (c, v :: vs) ∧ c := by
  obtain ⟨c, e1, q1⟩ := h1
  obtain ⟨d, e2, q2⟩ := h2
  exact ⟨c ∧ d, by simp only [aRess, aRes1, e1, e2], q1, q2⟩
theorem aRess_tmp {P : Program} {a : AA} {st : St} {x : Nat} {rs : List ResultVar} {vs : List AV} (h2 : ∃ c, aRess P a st rs = some (c, vs) ∧ c) : ∃ c, aRess P a st (.tmp x :: rs) = some (c, a.get x :: vs) ∧ c := by
  obtain ⟨d, e2, q2⟩ := h2
  exact ⟨True ∧ d, by simp only [aRess, aRes1, e2], trivial, q2⟩
theorem aRess_nil {P : Program} {a : AA} {st : St} : ∃ c, aRess P a st [] = some (c, []) ∧ c := ⟨True, rfl, trivial⟩
theorem ABody.ofRess {fn : Func} {R : AEnd → St → Prop} {a : AA} {st : St} {vs : List AV} (hd : a.ds = []) (h : ∃ c, aRess E.P a st fn.results.toList = some (c, vs) ∧ c) (hR : R (.ret (aTup vs)) st) : ABody E fn R .ret a st := by
  obtain ⟨c, h1, h2⟩ := h
  simp only [ABody, hd, ALeave]
  exact ⟨c, vs, h1, h2, hR⟩
theorem ARound.exit {l i : Nat} {Kn : AV → St → Prop} {a : AA} {st : St} {s p fn tm ps asg body d} (h : st l = some (.loop s p fn tm ps asg body d)) (hk : Kn (.bool false) (st.set l (.loop .done (some (.exit i)) fn tm ps asg body d))) : ARound l Kn (.exit i) a st := by
  simp only [ARound, h]; exact hk
theorem ARound.ret {l : Nat} {Kn : AV → St → Prop} {a : AA} {st : St} {s p fn tm ps asg body d} (h : st l = some (.loop s p fn tm ps asg body d)) (hk : Kn (.bool false) (st.set l (.loop .done (some .ret) fn tm ps asg body d))) : ARound l Kn .ret a st := by
  simp only [ARound, h]; exact hk
end
end Go.Abs

/- THE ABSTRACT MEMORY (part 36): the same as part 33, while looks may wait too, where what is written keeps what they look at. -/
namespace Go.Abs
open Go.RowKit
section
variable {E : Env} {r : Option Nat} {Q : APost} {ops : Array Oper}
def mw (ops : Array Oper) (n : Nat) (B : List Nat) (i : Nat) : Bool := (List.range i).any fun x => !B.contains x && !ahead ops n i x
def FxN (E : Env) (r : Option Nat) (ops : Array Oper) (Q : APost) (n : Nat) (B : List Nat) (I : St → Prop) (Kn : ANext) : List Nat → AA → St → Prop
  | [], a, st => Kn a st
  | i :: l, a, st =>
    (B.contains i = false ∧ ∃ v, Fixed E r ops Q i v a st ∧ (late ops n B i = true → ∀ st', I st' → Fixed E r ops Q i v a st') ∧ FxN E r ops Q n B I Kn l (a.put ((ops[i]?).bind (·.dst)) v) st) ∨
    (B.contains i = true ∧ ∃ R, Moves E r ops Q i R a st ∧ ∀ v st', R v st' → (mw ops n B i = true → I st') ∧ FxN E r ops Q n B I Kn l (a.put ((ops[i]?).bind (·.dst)) v) st')
theorem FxN.front {n : Nat} {B : List Nat} {I : St → Prop} {Kn : ANext} {i : Nat} {oi : Oper} (hi : ops[i]? = some oi) (hiB : B.contains i = false) : ∀ (xs ys : List Nat) (a : AA) (st : St), FxN E r ops Q n B I Kn (xs ++ i :: ys) a st → (∀ x ∈ xs, ∀ o, ops[x]? = some o → o.apart ops oi = true) → (∀ x ∈ xs, B.contains x = false) →
    ∃ v, Fixed E r ops Q i v a st ∧ (late ops n B i = true → ∀ st', I st' → Fixed E r ops Q i v a st') ∧ FxN E r ops Q n B I Kn (xs ++ ys) (a.put oi.dst v) st
  | [], ys, a, st, h, _, _ => by
    rcases h with ⟨_, v, h1, h2, h3⟩ | ⟨hb, _⟩
    · rw [hi] at h3; exact ⟨v, h1, h2, h3⟩
    · rw [hiB] at hb; cases hb
  | x :: xs, ys, a, st, h, hx, hxb => by
    rcases h with ⟨hxB, u, h1, h1l, h2⟩ | ⟨hb, _⟩
    · have h1' := h1
      obtain ⟨ox, hox, _⟩ := h1'
      obtain ⟨p1, p2, p3⟩ := Oper.apart_spec (hx x (by simp) ox hox)
      rw [hox] at h2
      obtain ⟨v, g1, g1l, g2⟩ := FxN.front hi hiB xs ys _ st h2 (fun y hy => hx y (by simp [hy])) (fun y hy => hxb y (by simp [hy]))
      have s1 : ∀ t ∈ oi.looksAt ops, a.get t = (a.put ((some ox).bind (·.dst)) u).get t := fun t ht => (get_put_ne fun d hd e => p1 d hd (e ▸ ht)).symm
      have s2 : ∀ t ∈ ox.looksAt ops, (a.put oi.dst v).get t = a.get t := fun t ht => get_put_ne fun d hd e => p3 d hd (e ▸ ht)
      refine ⟨v, g1.congr hi s1, fun hl st' hI => (g1l hl st' hI).congr hi s1, .inl ⟨hxB, u, h1.congr hox s2, fun hl st' hI => (h1l hl st' hI).congr hox s2, ?_⟩⟩
      rw [hox]
      show FxN E r ops Q n B I Kn (xs ++ ys) ((a.put oi.dst v).put ox.dst u) st
      rw [← put_comm a u v p2]
      exact g2
    · rw [hxb x (by simp)] at hb; cases hb
theorem FxN.frontM {n : Nat} {B : List Nat} {I : St → Prop} {Kn : ANext} {i : Nat} {oi : Oper} (hi : ops[i]? = some oi) (hiB : B.contains i = true) : ∀ (xs ys : List Nat) (a : AA) (st : St), FxN E r ops Q n B I Kn (xs ++ i :: ys) a st → (∀ x ∈ xs, ∀ o, ops[x]? = some o → o.apart ops oi = true) → (∀ x ∈ xs, B.contains x = false) → (∀ x ∈ xs, late ops n B x = true) → (xs ≠ [] → mw ops n B i = true) →
    ∃ R, Moves E r ops Q i R a st ∧ ∀ v st', R v st' → (mw ops n B i = true → I st') ∧ FxN E r ops Q n B I Kn (xs ++ ys) (a.put oi.dst v) st'
  | [], ys, a, st, h, _, _, _, _ => by
    rcases h with ⟨hb, _⟩ | ⟨_, R, h1, h2⟩
    · rw [hiB] at hb; cases hb
    · rw [hi] at h2; exact ⟨R, h1, h2⟩
  | x :: xs, ys, a, st, h, hx, hxb, hxl, hm => by
    rcases h with ⟨hxB, u, h1, h1l, h2⟩ | ⟨hb, _⟩
    · have h1' := h1
      obtain ⟨ox, hox, _⟩ := h1'
      obtain ⟨p1, p2, p3⟩ := Oper.apart_spec (hx x (by simp) ox hox)
      rw [hox] at h2
      obtain ⟨R, g1, g2⟩ := FxN.frontM hi hiB xs ys _ st h2 (fun y hy => hx y (by simp [hy])) (fun y hy => hxb y (by simp [hy])) (fun y hy => hxl y (by simp [hy])) (fun _ => hm (by simp))
      have s1 : ∀ t ∈ oi.looksAt ops, a.get t = (a.put ((some ox).bind (·.dst)) u).get t := fun t ht => (get_put_ne fun d hd e => p1 d hd (e ▸ ht)).symm
      refine ⟨R, g1.congr hi s1, fun v st' hR => ⟨(g2 v st' hR).1, .inl ⟨hxB, u, ?_, fun hl st'' hI => ?_, ?_⟩⟩⟩
      · exact (h1l (hxl x (by simp)) st' ((g2 v st' hR).1 (hm (by simp)))).congr hox fun t ht => get_put_ne fun d hd e => p3 d hd (e ▸ ht)
      · exact (h1l hl st'' hI).congr hox fun t ht => get_put_ne fun d hd e => p3 d hd (e ▸ ht)
      · rw [hox]
        show FxN E r ops Q n B I Kn (xs ++ ys) ((a.put oi.dst v).put ox.dst u) st'
        rw [← put_comm a u v p2]
        exact (g2 v st' hR).2
    · rw [hxb x (by simp)] at hb; cases hb
theorem AOps.drawnN {md : Region.Mode} {n : Nat} {B : List Nat} {I : St → Prop} {Kn : ANext} (hB : ordM ops n B = true) (hK : ∀ a st, Kn a st → Q .normal a st) (hl : Live md ops) (ho : Ordered ops) : ∀ (fuel t : Nat) (listed : Array Bool) (a : AA) (st : St), listed.size = ops.size → Down ops listed → (left listed ops.size).length ≤ fuel →
    FxN E r ops Q n B I Kn (left listed ops.size) a st → AOps E r ops Q (Region.linearise.go md ops fuel t listed []) a st
  | 0, t, listed, a, st, hs, hdn, hf, h => by
    have : left listed ops.size = [] := List.eq_nil_of_length_eq_zero (by omega)
    rw [this] at h
    exact AOps.nil (hK _ _ h)
  | fuel + 1, t, listed, a, st, hs, hdn, hf, h => by
    have hdone : Region.ready md ops listed = [] → left listed ops.size = [] := fun hr => by
      apply List.eq_nil_iff_forall_not_mem.2
      intro i hi
      simp only [left, List.mem_filter, Bool.not_eq_true'] at hi
      exact hl listed hs ⟨i, hi.2⟩ hr
    have hgo : Region.linearise.go md ops (fuel + 1) t listed [] = match (Region.ready md ops listed)[t % (Region.ready md ops listed).length]? with
        | some i => i :: Region.linearise.go md ops fuel (t / (Region.ready md ops listed).length) (listed.setIfInBounds i true) []
        | .none => [] := by
      simp only [Region.linearise.go, Region.ready]
      split
      · rename_i heq
        rw [linearise_go_acc, heq]; rfl
      · rename_i heq
        rw [heq]; rfl
    rw [hgo]
    split
    · rename_i i hi
      have hmem := List.mem_of_getElem? hi
      obtain ⟨hn, oi, hoi, hed⟩ := mem_ready.1 hmem
      have hlt : i < ops.size := (Array.getElem?_eq_some_iff.1 hoi).1
      obtain ⟨xs, ys, e1, e2, e3⟩ := filter_split (p := fun i => !listed.getD i true) (l := List.range ops.size) List.pairwise_lt_range (List.mem_range.2 hlt) (by simp [hn])
      have e4 : left (listed.setIfInBounds i true) ops.size = xs ++ ys := by
        rw [← e3, left]
        refine List.filter_congr fun j hj => ?_
        by_cases hji : j = i
        · subst hji; simp [hs, hlt]
        · rw [getD_set_ne true (Ne.symm hji)]; simp [hji]
      have hdir : ∀ j ∈ direct ops i, listed.getD j false = true := fun j hj => by
        simp only [direct, hoi, List.mem_map, List.mem_filter] at hj
        obtain ⟨e, ⟨he, hb⟩, rfl⟩ := hj
        exact hed e (by simpa using he) (binds_any hb)
      have hdn' : Down ops (listed.setIfInBounds i true) := fun k hk j hj => by
        by_cases hki : k = i
        · subst hki; exact getD_set_true (hdir j hj)
        · rw [getD_set_ne false (Ne.symm hki)] at hk
          exact getD_set_true (hdn k hk j hj)
      have hun : ∀ x ∈ xs, listed.getD x false = false := fun x hx => by
        have h2 := (e2 x hx).2
        have : x < listed.size := by rw [hs]; have := (e2 x hx).1; omega
        simpa [this] using h2
      have hclos : ∀ x ∈ xs, (clos ops n i).contains x = false := fun x hx => by
        cases hc : (clos ops n i).contains x with
        | false => rfl
        | true =>
          have := clos_listed hdn n i hdir x (by simpa using hc)
          rw [hun x hx] at this; cases this
      rw [left, e1] at h
      have hlen' : (xs ++ ys).length ≤ fuel := by
        rw [left, e1] at hf
        simp only [List.length_append, List.length_cons] at hf ⊢
        omega
      have hapart : ∀ x ∈ xs, ∀ o, ops[x]? = some o → o.apart ops oi = true := fun x hx o hox => by
        rcases ho x i o oi (e2 x hx).1 hox hoi with q | ⟨e, he, rfl, hb⟩
        · exact q
        · have := hed e he (binds_any hb)
          rw [hun e.on hx] at this; cases this
      have hxB : ∀ x ∈ xs, B.contains x = false := fun x hx => by
        cases hb : B.contains x with
        | false => rfl
        | true =>
          exfalso
          have h1 := List.all_eq_true.1 hB x (by simpa using hb)
          rw [Bool.and_eq_true] at h1
          have h2 := List.all_eq_true.1 h1.2 i (List.mem_range.2 hlt)
          have hxi := (e2 x hx).1
          have h3 := (Bool.or_eq_true _ _).mp h2
          rcases h3 with h3 | h3
          · rw [ahead, if_neg (by omega), hclos x hx, Bool.or_false, beq_iff_eq] at h3; omega
          · have := of_decide_eq_true h3; omega
      cases hiB : B.contains i with
      | false =>
        obtain ⟨v, g1, _, g2⟩ := FxN.front hoi hiB xs ys a st h hapart hxB
        obtain ⟨o', ho', g1⟩ := g1
        rw [hoi] at ho'; cases ho'
        exact g1 a _ (fun _ _ => rfl) (AOps.drawnN hB hK hl ho fuel _ _ _ _ (by simpa using hs) hdn' (by rw [e4]; exact hlen') (by rw [e4]; exact g2))
      | true =>
        have hlate : ∀ x ∈ xs, late ops n B x = true := fun x hx => by
          refine List.any_eq_true.2 ⟨i, by simpa using hiB, ?_⟩
          have hxi := (e2 x hx).1
          have : (i == x) = false := by simp; omega
          simp only [ahead, this, Bool.false_or, if_pos hxi, hclos x hx, Bool.not_false]
        have hmw : xs ≠ [] → mw ops n B i = true := fun hne => by
          obtain ⟨x, xs', rfl⟩ := List.exists_cons_of_ne_nil hne
          have hx : x ∈ x :: xs' := by simp
          have hxi := (e2 x hx).1
          refine List.any_eq_true.2 ⟨x, List.mem_range.2 hxi, ?_⟩
          have : (i == x) = false := by simp; omega
          simp only [ahead, this, Bool.false_or, if_pos hxi, hclos x hx, hxB x hx, Bool.not_false, Bool.and_self]
        obtain ⟨R, g1, g2⟩ := FxN.frontM hoi hiB xs ys a st h hapart hxB hlate hmw
        obtain ⟨o', ho', g1⟩ := g1
        rw [hoi] at ho'; cases ho'
        exact g1 a _ (fun _ _ => rfl) fun v st' hR => AOps.drawnN hB hK hl ho fuel _ _ _ _ (by simpa using hs) hdn' (by rw [e4]; exact hlen') (by rw [e4]; exact (g2 v st' hR).2)
    · rename_i hnone
      have hr : Region.ready md ops listed = [] := by
        cases hc : Region.ready md ops listed with
        | nil => rfl
        | cons x l =>
          exfalso
          rw [hc] at hnone
          have : t % (x :: l).length < (x :: l).length := Nat.mod_lt _ (by simp)
          rw [List.getElem?_eq_getElem this] at hnone
          first | exact hnone _ rfl | cases hnone
      rw [hdone hr] at h
      exact AOps.nil (hK _ _ h)
theorem AW.drawnN {id : Nat} {a : AA} {st : St} (n : Nat) (B p : List Nat) (I : St → Prop) (hb : (Go.Abs.drawnB ops p && ordM ops n B) = true)
    (h : ∀ (Q' : APost) (Kn : ANext), (∀ x a st, Q x a st → Q' x a st) → (∀ a st, Q .normal a st → Kn a st) → (∀ a st, Kn a st → Q' .normal a st) → FxN E r ops Q' n B I Kn (List.range ops.size) a st) : AW E r (.region id ops true) Q a st := by
  rw [Bool.and_eq_true] at hb
  obtain ⟨hb, hB⟩ := hb
  simp only [Go.Abs.drawnB, Bool.and_eq_true] at hb
  obtain ⟨⟨⟨⟨b1, b2⟩, b3⟩, b4⟩, b5⟩ := hb
  have hr : (List.range ops.size).all (fun i => (List.range ops.size).contains i) = true := by simp
  have hl : ∀ md, Live md ops := fun md => by
    cases md
    · exact live_of _ b2 hr
    · exact live_of _ b3 b4
    · exact live_of _ b1 hr
  have h0 := h Q (Q .normal) (fun _ _ _ h => h) (fun _ _ h => h) (fun _ _ h => h)
  have hleft : left (Array.replicate ops.size false) ops.size = List.range ops.size := by
    rw [left, List.filter_eq_self]
    intro i hi
    simp [List.mem_range.1 hi]
  have hgo : ∀ md t, AOps E r ops Q (Region.linearise md ops t) a st := fun md t =>
    AOps.drawnN hB (fun _ _ h => h) (hl md) (ordered_of b5) ops.size t _ a st (by simp) (fun k hk => by exfalso; by_cases hk2 : k < ops.size <;> simp [Array.getElem?_replicate, hk2] at hk) (by rw [hleft]; simp) (by rw [hleft]; exact h0)
  refine AW.region_draw fun t => ?_
  unfold Region.schedule
  split
  · exact hgo _ _
  · exact hgo _ _
def FxNC (E : Env) (r : Option Nat) (ops : Array Oper) (Q : APost) (n : Nat) (B : List Nat) (I : St → Prop) (Kn : ANext) : List Nat → AA → St → Prop
  | [], a, st => Kn a st
  | i :: rest, a, st =>
    match ops[i]? with
    | none => False
    | some o =>
      match o.guard with
      | none =>
        match pureOp E a o.op with
        | some (c, v) => c ∧ FxNC E r ops Q n B I Kn rest (a.put o.dst v) st
        | none => FxN E r ops Q n B I Kn (i :: rest) a st
      | some _ => FxN E r ops Q n B I Kn (i :: rest) a st
theorem FxNC_ok {n : Nat} {B : List Nat} {I : St → Prop} {Kn : ANext} (hno : ∀ i ∈ B, ∀ a o, ops[i]? = some o → pureOp E a o.op = none) : ∀ (l : List Nat) (a : AA) (st : St), FxNC E r ops Q n B I Kn l a st → FxN E r ops Q n B I Kn l a st
  | [], a, st, h => h
  | i :: rest, a, st, h => by
    simp only [FxNC] at h
    split at h
    · exact h.elim
    · rename_i o ho
      have hdst : (ops[i]?).bind (·.dst) = o.dst := by rw [ho]; rfl
      split at h
      · rename_i hg
        split at h
        · rename_i c v hp
          have hiB : B.contains i = false := by
            cases hb : B.contains i with
            | false => rfl
            | true => rw [hno i (by simpa using hb) a o ho] at hp; cases hp
          exact .inl ⟨hiB, v, Fixed.pure ho hg hp h.1, fun _ _ _ => Fixed.pure ho hg hp h.1, by rw [hdst]; exact FxNC_ok hno rest _ st h.2⟩
        · exact h
      · exact h
theorem FxN.fixed {n : Nat} {B : List Nat} {I : St → Prop} {Kn : ANext} {i : Nat} {rest : List Nat} {a : AA} {st : St} {v : AV} (hb : (!B.contains i && !late ops n B i) = true) (h : Fixed E r ops Q i v a st) (hk : FxN E r ops Q n B I Kn rest (a.put ((ops[i]?).bind (·.dst)) v) st) : FxN E r ops Q n B I Kn (i :: rest) a st := by
  simp only [Bool.and_eq_true, Bool.not_eq_true'] at hb
  exact .inl ⟨hb.1, v, h, fun hl => (by rw [hb.2] at hl; cases hl), hk⟩
theorem FxN.moves {n : Nat} {B : List Nat} {I : St → Prop} {Kn : ANext} {i : Nat} {rest : List Nat} {a : AA} {st : St} {R : AV → St → Prop} (hb : B.contains i = true) (h : Moves E r ops Q i R a st) (hk : ∀ v st', R v st' → I st' ∧ FxN E r ops Q n B I Kn rest (a.put ((ops[i]?).bind (·.dst)) v) st') : FxN E r ops Q n B I Kn (i :: rest) a st := .inr ⟨hb, R, h, fun v st' hR => ⟨fun _ => (hk v st' hR).1, (hk v st' hR).2⟩⟩
theorem FxN.wait {n : Nat} {B : List Nat} {I : St → Prop} {Kn : ANext} {i : Nat} {rest : List Nat} {a : AA} {st : St} {v : AV} (hb : B.contains i = false) (h0 : I st) (h : ∀ st', I st' → Fixed E r ops Q i v a st') (hk : FxN E r ops Q n B I Kn rest (a.put ((ops[i]?).bind (·.dst)) v) st) : FxN E r ops Q n B I Kn (i :: rest) a st :=
  .inl ⟨hb, v, h st h0, fun _ st' hI => h st' hI, hk⟩
theorem Moves.storeAll {i : Nat} {o : Oper} {a : AA} {st : St} {t t0 : TypeId} {x y : Operand} {id sz : Nat} {cs old : List AV} (hi : ops[i]? = some o) (hg : o.guard = none) (ho : o.op = .store t x y) (hx : evU E a x = .ptr id 0 0 0) (hcs : evCs E a [x, y]) (hst : st id = some (.cells t0 0 sz [old])) (hv : aCells (evU E a y) = some cs) (hone : cs.all isCell = true) (hl : cs.length = sz) (hlo : old.length = sz) (hn : tsz E.P t = some cs.length) :
    Moves E r ops Q i (fun v st' => v = .tup [] ∧ st' = st.set id (.cells t0 0 sz [cs])) a st :=
  Moves.of hi hg fun a' Kn hs hk => by
    have e1 := same_get (E := E) hs x (by rw [ho]; simp [Op.operands])
    have e2 := same_get (E := E) hs y (by rw [ho]; simp [Op.operands])
    exact AOp.storeAll ho (by simp only [evU, e1]; exact hx) (by simp only [evCs, evC, e1, e2] at hcs ⊢; exact hcs) hst (by simp only [evU, e2]; exact hv) hone hl hlo hn (hk _ _ ⟨rfl, rfl⟩)
theorem ABody.ofRess1 {fn : Func} {R : AEnd → St → Prop} {a : AA} {st : St} {vs : List AV} {d : Nat} (hd : a.ds = [.collected d]) (hst : st d = some (.dfr true)) (h : ∃ c, aRess E.P a (st.set d (.dfr false)) fn.results.toList = some (c, vs) ∧ c) (hR : R (.ret (aTup vs)) (st.set d (.dfr false))) : ABody E fn R .ret a st := by
  obtain ⟨c, h1, h2⟩ := h
  simp only [ABody, hd, ALeave]
  exact ⟨hst, c, vs, h1, h2, hR⟩
attribute [go_sem] FxNC
end
end Go.Abs

/- THE ABSTRACT MEMORY (part 37): a variable that is only read from here on is frozen; a slice of a frozen array. -/
namespace Go.Abs
open Go.RowKit
section
variable {E : Env} {κ : K} {st : St} {w : World} {a : AA} {act : Act} {r : Option Nat} {Q : APost} {ops : Array Oper}
theorem AW.freeze {c : Code} (t : Nat) {id sz : Nat} {t0 : TypeId} {cs : List AV} (ht : a.get t = .ptr id 0 0 0) (hst : st id = some (.cells t0 0 sz [cs])) (h : AW E r c Q (a.put (some t) (.fptr cs)) (st.del id)) : AW E r c Q a st := by
  intro κ w act rd hR hA hr
  have hK := K.le_freeze hR (st.del id)
  have hR' := hR.freeze (St.del_sub st id)
  obtain ⟨L, hL, hB, _, _⟩ := hR.dom id _ hst
  obtain ⟨e1, e2, hl, hm', cc, fr, hh, hsz, hfr, hE⟩ := hB
  have hfz : ∀ o, (κ.freeze st (st.del id) w).fz L.b o = cc[o]? := by
    intro o
    simp only [K.freeze]
    rw [if_pos ⟨id, L, by simp [hst], by simp [St.del], hL, rfl⟩]
    exact cell_of_cells hh o
  have hF : VRF (κ.freeze st (st.del id) w) ((κ.freeze st (st.del id) w).fz L.b) cs 0 := by
    simp only [VRE] at hE
    exact VRF.mono hK cs _ _ (fun o v hv => by rw [hfz]; exact hv) 0 hE.2.1
  have hcv : VR κ (.ptr id 0 0 0) (act.tmps.toList.getD t undef) := by
    have := VRs_getD hA.t t
    rw [← ht]; exact this
  have hnew : VR (κ.freeze st (st.del id) w) (.fptr cs) (act.tmps.toList.getD t undef) := by
    simp only [VR] at hcv ⊢
    obtain ⟨ad, L', hv, hL', _, ha⟩ := hcv
    rw [hL] at hL'; cases hL'
    have := ha e1
    subst this
    exact ⟨L.b, 0 * L.sz + 0, by rw [hv], by simpa using hF⟩
  have hA' := (hA.mono hK).put (some t) hnew
  have hact : act.put (some t) (act.tmps.toList.getD t undef) = act := by
    have : act.tmps.setIfInBounds t (act.tmps.toList.getD t undef) = act.tmps := by
      refine Array.toList_inj.1 ?_
      refine List.ext_getElem? fun i => ?_
      rw [Array.toList_setIfInBounds, List.getElem?_set]
      split
      · rename_i e
        subst e
        split
        · rename_i hi
          simp [List.getD, List.getElem?_eq_getElem hi]
        · rename_i hi
          rw [List.getElem?_eq_none (by omega)]
      · rfl
    simp only [Act.put, this]
  rw [hact] at hA'
  exact wpIn_mono (h _ w act rd hR' hA' (hr.mono hK)) fun _ _ _ hu => upX_le hK (fun _ _ _ h => h) hu
end
end Go.Abs

/- THE ABSTRACT MEMORY (part 39): arguments of any shape, opened. -/
namespace Go.Abs
open Go.RowKit Go.Proofs.YtbknconfeiojcaaGreatDoor
mutual
def AV.bulk : AV → Nat
  | .str s => s.length + 1
  | .tree _ es => bulkLL es + 1
  | .junk => 0
  | _ => 1
def bulkL : List AV → Nat
  | [] => 0
  | a :: r => a.bulk + bulkL r
def bulkLL : List (List AV) → Nat
  | [] => 0
  | e :: es => bulkL e + bulkLL es
end
theorem bulkL_append : ∀ a b : List AV, bulkL (a ++ b) = bulkL a + bulkL b
  | [], b => by simp [bulkL]
  | x :: a, b => by simp only [List.cons_append, bulkL, bulkL_append a b]; omega
theorem bulkL_flatten : ∀ L : List (List AV), bulkL L.flatten = bulkLL L
  | [] => rfl
  | e :: L => by simp only [List.flatten_cons, bulkL_append, bulkLL, bulkL_flatten L]
section
variable {P : Program}
def WfT (P : Program) : Nat → TypeId → List AV → Prop
  | 0, _, _ => False
  | n + 1, t, cs =>
    match P.underlying t with
    | some .bool => ∃ b, cs = [.bool b]
    | some (.int k) => ∃ i, cs = [.int k i] ∧ (Lit.int k i).wf = true
    | some .string => ∃ s, cs = [.str s] ∧ s.length ≤ maxLen
    | some (.slice e) => ∃ es, cs = [.tree (P.cellsOf e) es] ∧ es.length ≤ maxLen ∧ ∀ x ∈ es, WfT P n e x
    | some (.struct fs) => cs.length = P.cellsOf t ∧ ∀ (i : Nat) (f : Field), fs[i]? = some f → WfT P n f.type ((cs.drop f.offset).take (P.cellsOf f.type))
    | _ => True
end
section
variable {H : Type} {enc : TypeId × Value → H} {P : Program} {W : World} {κ : K}
theorem list_choose {α : Type} (d : α) : ∀ (n : Nat) (p : Nat → α → Prop) (_ : ∀ i, i < n → ∃ x, p i x), ∃ l : List α, l.length = n ∧ ∀ i, i < n → p i (l.getD i d)
  | 0, p, h => ⟨[], rfl, fun i hi => by omega⟩
  | n + 1, p, h => by
    obtain ⟨x, hx⟩ := h 0 (by omega)
    obtain ⟨l, hl, hp⟩ := list_choose d n (fun i => p (i + 1)) fun i hi => h (i + 1) (by omega)
    refine ⟨x :: l, by simp [hl], fun i hi => ?_⟩
    cases i with
    | zero => simpa using hx
    | succ i => simpa using hp i (by omega)
theorem tile : ∀ (L : List (List AV)) (c : List Nat) (cs : List Value), L.length = c.length → cs.length = c.sum →
    (∀ j, j < L.length → (L.getD j []).length = c.getD j 0 ∧ VRs κ (L.getD j []) ((cs.drop (c.take j).sum).take (c.getD j 0))) →
    L.flatten.length = cs.length ∧ VRs κ L.flatten cs ∧ ∀ j, j < L.length → (L.flatten.drop (c.take j).sum).take (c.getD j 0) = L.getD j []
  | [], [], cs, _, h, _ => by
    simp at h; subst h; simp [VRs]
  | [], c :: cs', cs, h, _, _ => by simp at h
  | l :: L, [], cs, h, _, _ => by simp at h
  | l :: L, c0 :: c, cs, hl, hs, hj => by
    have h0 := hj 0 (by simp)
    simp only [List.getD_cons_zero, List.take_zero, List.sum_nil, List.drop_zero] at h0
    have hs' : (cs.drop c0).length = c.sum := by simp only [List.length_drop, hs, List.sum_cons]; omega
    obtain ⟨i1, i2, i3⟩ := tile L c (cs.drop c0) (by simpa using hl) hs' fun j hlt => by
      have := hj (j + 1) (by simpa using hlt)
      simpa only [List.getD_cons_succ, List.take_succ_cons, List.sum_cons, List.drop_drop] using this
    refine ⟨?_, ?_, fun j hlt => ?_⟩
    · simp only [List.flatten_cons, List.length_append, i1, h0.1, hs', hs, List.sum_cons]
    · have := VRs_append h0.2 i2
      rwa [List.take_append_drop] at this
    · cases j with
      | zero => simp [← h0.1]
      | succ j =>
        have := i3 j (by simpa using hlt)
        simp only [List.getD_cons_succ, List.take_succ_cons, List.sum_cons, List.flatten_cons]
        rw [← this, ← h0.1, List.drop_append, List.drop_eq_nil_of_le (by omega)]
        simp
theorem VRs_junk (κ : K) : ∀ cs : List Value, VRs κ (cs.map fun _ => AV.junk) cs
  | [] => by simp [VRs]
  | c :: cs => by simp only [List.map_cons, VRs]; exact ⟨c, cs, rfl, by simp only [VR], VRs_junk κ cs⟩
theorem bulkL_junk : ∀ cs : List Value, bulkL (cs.map fun _ => AV.junk) = 0
  | [] => rfl
  | c :: cs => by simp [bulkL, AV.bulk, bulkL_junk cs]
theorem cells_get {w : World} {base : Nat} {a : Addr} {n : Nat} {cs : List Value} (h : w.cells? base a n = some cs) : cs.length = n ∧ ∀ i, i < n → w.cell? (a.add i) = cs[i]? := by
  unfold World.cells? at h
  split at h
  · exact ⟨by simpa using mapM_some_length h, fun i hi => mapM_some_get h i i (by simp [hi])⟩
  · cases h
def slicesB (P : Program) : Bool := (List.range P.types.size).all fun t => match P.underlying t with | some (.slice e) => decide (0 < P.cellsOf e) | _ => true
theorem slicesB_of (h : slicesB P = true) {t e : TypeId} (ht : t < P.types.size) (hu : P.underlying t = some (.slice e)) : 0 < P.cellsOf e := by
  have := List.all_eq_true.1 h t (List.mem_range.2 ht)
  simpa [hu] using this
theorem bulkLL_le : ∀ (es : List (List AV)) (ds : List (DataW H)), es.length = ds.length → (∀ i, i < es.length → bulkL (es.getD i []) ≤ Rows.uptoBulk (ds.getD i .nil)) → bulkLL es ≤ Rows.uptoBulkAll ds
  | [], [], _, _ => by simp [bulkLL, Rows.uptoBulkAll]
  | [], _ :: _, h, _ => by simp at h
  | _ :: _, [], h, _ => by simp at h
  | e :: es, d :: ds, h, hp => by
    have h0 := hp 0 (by simp)
    have h1 := bulkLL_le es ds (by simpa using h) fun i hi => by simpa using hp (i + 1) (by simpa using hi)
    simp only [List.getD_cons_zero] at h0
    simp only [bulkLL, Rows.uptoBulkAll]; omega
theorem open_any (hl : laidOutB P = true) (hz : slicesB P = true) : ∀ (n : Nat) (t : TypeId) (cs : List Value) (x : DataW H × List MemPlace), t < P.types.size → DataW.trod enc P W 0 (fun _ => true) true n t cs = some x →
    ∃ avs, avs.length = cs.length ∧ VRs (K.start W) avs cs ∧ WfT P n t avs ∧ bulkL avs ≤ Rows.uptoBulk x.1
  | 0, t, cs, x, ht, h => by simp [DataW.trod] at h
  | n + 1, t, cs, x, ht, h => by
    have other : (WfT P (n + 1) t (cs.map fun _ => .junk)) → ∃ avs, avs.length = cs.length ∧ VRs (K.start W) avs cs ∧ WfT P (n + 1) t avs ∧ bulkL avs ≤ Rows.uptoBulk x.1 :=
      fun hw => ⟨_, by simp, VRs_junk _ cs, hw, by rw [bulkL_junk]; omega⟩
    cases hu : P.underlying t with
    | none => exact other (by simp only [WfT, hu])
    | some d =>
      cases d <;> first | (refine other ?_; simp only [WfT, hu]; done) | skip
      case bool =>
        obtain ⟨b, rfl, rfl⟩ : ∃ b, cs = [.bool b] ∧ x = (.lit (.bool b), []) := by
          unfold DataW.trod at h
          rw [hu] at h
          split at h <;> simp_all
        exact ⟨[.bool b], rfl, by simp [VRs, VR], by simp only [WfT, hu]; exact ⟨b, rfl⟩, by simp [bulkL, AV.bulk, Rows.uptoBulk]⟩
      case int k =>
        obtain ⟨i, rfl, rfl, hw⟩ := DataW.trod_int hu h
        exact ⟨[.int k i], rfl, by simp [VRs, VR], by simp only [WfT, hu]; exact ⟨i, rfl, hw⟩, by simp [bulkL, AV.bulk, Rows.uptoBulk]⟩
      case string =>
        obtain ⟨s, rfl, rfl, hw⟩ := DataW.trod_string hu h
        have hs : s.data.toList.length = s.size := by show s.data.toList.length = s.data.size; simp
        exact ⟨[.str s.data.toList], rfl, by simp [VRs, VR], by simp only [WfT, hu]; exact ⟨_, rfl, by omega⟩, by simp [bulkL, AV.bulk, Rows.uptoBulk]⟩
      case slice e =>
        have hte := kid_slice hl ht hu
        have hc := slicesB_of hz ht hu
        rcases DataW.trod_slice hu h with ⟨rfl, rfl⟩ | ⟨a, len, cap, elems, rest, m, hm, rfl, rfl, _, hlc, hcm, hlen, hel, hre, _⟩
        · exact ⟨[.tree (P.cellsOf e) []], rfl, by simp [VRs, VR], by simp only [WfT, hu]; exact ⟨[], rfl, by simp, by simp⟩, by simp [bulkL, bulkLL, AV.bulk, Rows.uptoBulk]⟩
        · obtain rfl : n = m := by omega
          subst hlen
          have hex : ∀ i, i < elems.length → ∃ avs : List AV, avs.length = P.cellsOf e ∧ (∃ ce, W.cells? 0 (a.add (i * P.cellsOf e)) (P.cellsOf e) = some ce ∧ VRs (K.start W) avs ce) ∧ WfT P n e avs ∧ bulkL avs ≤ Rows.uptoBulk ((elems.map (·.1)).getD i .nil) := fun i hi => by
            have h1 := hel i hi
            rw [List.getElem?_eq_getElem hi] at h1
            obtain ⟨ce, hce, htr⟩ := Option.bind_eq_some_iff.1 h1
            obtain ⟨avs, q1, q2, q3, q4⟩ := open_any hl hz n e ce _ hte htr
            exact ⟨avs, by rw [q1, (cells_get hce).1], ⟨ce, hce, q2⟩, q3, by simpa [List.getD, List.getElem?_eq_getElem hi] using q4⟩
          obtain ⟨es, hes, hp⟩ := list_choose [] _ _ hex
          have hsp : es = [] ∨ a.spot = none := by
            by_cases h0 : es = []
            · exact .inl h0
            · right
              have hpos : 0 < elems.length := by rw [← hes]; exact List.length_pos_iff.2 h0
              obtain ⟨_, ⟨ce, hce, _⟩, _⟩ := hp 0 hpos
              cases hs : a.spot with
              | none => rfl
              | some s =>
                exfalso
                obtain ⟨c1, c2⟩ := cells_get hce
                have := c2 0 hc
                rw [List.getElem?_eq_getElem (by omega)] at this
                simp [Addr.add, World.cell?, hs] at this
                split at this <;> cases this
          refine ⟨[.tree (P.cellsOf e) es], rfl, ?_, ?_, ?_⟩
          · simp only [VRs, VR]
            refine ⟨_, _, rfl, .inr ⟨a, cap, by rw [hes], by omega, hsp, ?_⟩, rfl⟩
            rw [VRE_iff]
            intro i hi
            obtain ⟨q1, ⟨ce, hce, q2⟩, _, _⟩ := hp i (by omega)
            refine ⟨q1, VRs_VRF q2 fun j v hv => ?_⟩
            have hj := (List.getElem?_eq_some_iff.1 hv).1
            obtain ⟨c1, c2⟩ := cells_get hce
            obtain ⟨b, o, sp⟩ := a
            rcases hsp with rfl | hs
            · simp at hi
            · simp only at hs; subst hs
              have := c2 j (by omega)
              rw [addr_add, addr_add] at this
              simp only [K.start]
              rw [this, hv]
          · simp only [WfT, hu]
            refine ⟨es, rfl, by omega, fun x hx => ?_⟩
            obtain ⟨i, hi, rfl⟩ := List.getElem_of_mem hx
            have := (hp i (by omega)).2.2.1
            simpa [List.getD, List.getElem?_eq_getElem hi] using this
          · have := bulkLL_le es (elems.map (·.1)) (by simp [hes]) fun i hi => (hp i (by omega)).2.2.2
            simp only [bulkL, AV.bulk, Rows.uptoBulk]; omega
      case struct fs =>
        obtain ⟨k1, k2, k3⟩ := kid_struct hl ht hu
        obtain ⟨xs, m, hm, rfl, hlen, hxl, hf⟩ := DataW.trod_struct hu h
        obtain rfl : n = m := by omega
        have hex : ∀ i, i < xs.length → ∃ avs : List AV, ∀ f, fs[i]? = some f → avs.length = P.cellsOf f.type ∧ VRs (K.start W) avs ((cs.drop f.offset).take (P.cellsOf f.type)) ∧ WfT P n f.type avs ∧ bulkL avs ≤ Rows.uptoBulk ((xs.map (·.1)).getD i .nil) := fun i hi => by
          have hi' : i < fs.size := by omega
          have hff := hf i fs[i] (by simp [hi'])
          rw [List.getElem?_eq_getElem hi] at hff
          have hmem : fs[i] ∈ fs.toList := by simp
          obtain ⟨avs, q1, q2, q3, q4⟩ := open_any hl hz n fs[i].type _ _ (k1 _ hmem) hff
          refine ⟨avs, fun f hfi => ?_⟩
          obtain rfl : fs[i] = f := by simpa [hi'] using hfi
          refine ⟨?_, q2, q3, by simpa [List.getD, List.getElem?_eq_getElem hi] using q4⟩
          have o1 := k3 i fs[i] (by simp [hi'])
          rw [q1, List.length_take, List.length_drop, hlen, k2]
          have hsplit : (fs.toList.map fun f => P.cellsOf f.type).sum = ((fs.toList.take i).map fun f => P.cellsOf f.type).sum + (P.cellsOf fs[i].type + ((fs.toList.drop (i + 1)).map fun f => P.cellsOf f.type).sum) := by
            conv => lhs; rw [← List.take_append_drop i fs.toList, List.drop_eq_getElem_cons (by simpa using hi')]
            simp
          omega
        obtain ⟨L, hL, hp⟩ := list_choose [] _ _ hex
        have hget : ∀ j, j < L.length → ∃ f, fs[j]? = some f ∧ (fs.toList.map fun f => P.cellsOf f.type).getD j 0 = P.cellsOf f.type ∧ ((fs.toList.map fun f => P.cellsOf f.type).take j).sum = f.offset := fun j hj => by
          have hj' : j < fs.size := by omega
          refine ⟨fs[j], by simp [hj'], by simp [List.getD, hj'], ?_⟩
          rw [← List.map_take, ← k3 j fs[j] (by simp [hj'])]
        obtain ⟨t1, t2, t3⟩ := tile (κ := K.start W) L (fs.toList.map fun f => P.cellsOf f.type) cs (by simp; omega) (by rw [hlen, k2]) fun j hj => by
          obtain ⟨f, g1, g2, g3⟩ := hget j hj
          obtain ⟨p1, p2, _⟩ := hp j (by omega) f g1
          rw [g2, g3]
          exact ⟨p1, p2⟩
        refine ⟨L.flatten, t1, t2, ?_, ?_⟩
        · simp only [WfT, hu]
          refine ⟨by rw [t1, hlen], fun i f hi => ?_⟩
          have hi' : i < L.length := by have := (Array.getElem?_eq_some_iff.1 hi).1; omega
          obtain ⟨f', g1, g2, g3⟩ := hget i hi'
          rw [hi] at g1; cases g1
          have := t3 i hi'
          rw [g2, g3] at this
          rw [this]
          exact (hp i (by omega) f hi).2.2.1
        · rw [bulkL_flatten]
          have := bulkLL_le L (xs.map (·.1)) (by simp [hL]) fun i hi => by
            obtain ⟨f, g1, _⟩ := hget i hi
            exact (hp i (by omega) f g1).2.2.2
          simp only [Rows.uptoBulk]; omega
end
end Go.Abs

/- THE ABSTRACT MEMORY (part 45): a loop whose rounds leave marks of ranges over functions; many marks taken up. -/
namespace Go.Abs
open Go.RowKit
section
variable {E : Env} {r : Option Nat} {Q : APost}
end
end Go.Abs

/- THE ABSTRACT MEMORY (part 54): a range over a function within a round of another one. -/
namespace Go.Abs
open Go.RowKit
section
variable {E : Env} {κ : K} {st : St} {w : World} {a : AA} {act : Act} {Q : APost}
theorem AW.rangeFuncN {g : Operand} {ps : Array Tmp} {assign body : Code} {f : FuncId} {fi ca : List AV} {l0 d : Nat} {s0 : LoopState} {pend0 : Option Code} {fn0 : FuncId} {tm0 : List AV} {ps0 : Array Tmp} {assign0 body0 : Code}
    (hl0 : st l0 = some (.loop s0 pend0 fn0 tm0 ps0 assign0 body0 d)) (hg : evU E a g = .clo (.func f) fi ca) (hcs : evC E a g) (hb : hasBody E.P f = true)
    (h : ∀ l fn, st l = none → ACalls E f (fi ++ [.yld l] ++ ca) (st.set l (.loop .ready none fn a.tm ps assign body d)) (ARange E (some l0) l Q a)) :
    AW E (some l0) (.rangeFunc g ps assign body) Q a st := by
  intro κ w act rd hR hA hr
  have hr0 := hr
  obtain ⟨L0, b0, hL0, rfl, hb0⟩ := hr
  obtain ⟨L0', hL0', hB0, _, _⟩ := hR.dom l0 _ hl0
  rw [hL0] at hL0'; cases hL0'
  obtain ⟨hg0, tmps0, D, db, htm0, hD, hDb, hheap0⟩ := hB0
  have hbb := hb0 hg0
  subst hbb
  refine wpIn_rangeFunc fun fn _ => ?_
  have hv := unO_ok (hA.ev hR g) hcs
  rw [show unO (a.ev E g) = evU E a g from rfl, hg] at hv
  simp only [VR] at hv
  obtain ⟨cfi, cca, hge, hfi, hca⟩ := hv
  obtain ⟨l, hl1, hl2⟩ := hR.fresh
  have hdl : d ≠ l := fun e => by subst e; rw [hl1] at hD; cases hD
  have hK : K.Le κ (κ.set l ⟨0, w.heap.size, 0, 0⟩) := K.le_set fun L0 h0 => by rw [hl1] at h0; cases h0
  obtain ⟨hR2, _⟩ := hR.alloc (g := 0) (cap := 0) (sz := 0) hl1 (o := .loop { state := .ready, pending := none, fn, tmps := act.tmps, params := ps, assign, body, defers := db }) (B := .loop .ready none fn a.tm ps assign body d)
    ⟨rfl, act.tmps, D, db, VRs.mono hK _ _ hA.t, by rw [K.set_ne _ _ hdl]; exact hD, hDb, heap_alloc_new w _⟩
  have hyl := VR_yld (κ := κ.set l ⟨0, w.heap.size, 0, 0⟩) (id := l) (K.set_same _ _ _)
  have hargs : VRs (κ.set l ⟨0, w.heap.size, 0, 0⟩) (fi ++ [.yld l] ++ ca) (cfi ++ #[Value.func (.yield w.heap.size) #[] #[]] ++ cca).toList := by
    have q1 : VRs (κ.set l ⟨0, w.heap.size, 0, 0⟩) [.yld l] [Value.func (.yield w.heap.size) #[] #[]] := by
      simp only [VRs]; exact ⟨_, _, rfl, hyl, rfl⟩
    simpa using VRs_append (VRs_append (VRs.mono hK _ _ hfi) q1) (VRs.mono hK _ _ hca)
  have hcall := h l fn hl2 _ _ _ hR2 hargs
  refine ⟨w.heap.size, [], (w.alloc (.loop { state := .ready, pending := none, fn, tmps := act.tmps, params := ps, assign, body, defers := db })),
    { target := .fn (.func f) cca, args := cfi ++ #[Value.func (.yield w.heap.size) #[] #[]] }, (w.alloc (.loop { state := .ready, pending := none, fn, tmps := act.tmps, params := ps, assign, body, defers := db })), f, _, _, ?_, ?_, fun _ _ => trivial, ?_, fun h => by simp [Fence.wide] at h, CallsIn.mono hcall ?_⟩
  · exact run_enterLoop_inner hheap0 fn act.tmps ps assign body
  · have : (resolve act.eval (rangeCall g w.heap.size) 0) = Deferred.ofValue (act.eval g) #[Value.func (.yield w.heap.size) #[] #[]] := by
      simp [rangeCall, resolve, Act.eval]
    rw [this, hge]
    rfl
  · exact run_callFunc hb _ _
  · intro e w' hu
    exact rangePost_ok (r := some l0) (rd := some L0.b) (a' := a) (act' := { act with defers := [] ++ act.defers }) (κ0 := κ) (L := ⟨0, w.heap.size, 0, 0⟩) hK (K.set_same _ _ _) rfl ⟨VRs.mono hK _ _ hA.t, (hA.mono hK).d⟩ (hr0.mono hK) hu
end
end Go.Abs

/- THE ABSTRACT MEMORY (part 40): what a walk made, as it is told behind its end. -/
namespace Go.Abs
open Go.RowKit
def VLe (v v' : AV) : Prop := ∀ κ cv, VR κ v cv → VR κ v' cv
theorem VLe.refl (v : AV) : VLe v v := fun _ _ h => h
theorem VLe.of_eq {v v' : AV} (h : v = v') : VLe v v' := h ▸ VLe.refl v
theorem VLe.nil (sz : Nat) : VLe .nils (.tree sz []) := fun κ cv h => by
  simp only [VR] at h ⊢
  exact .inl ⟨trivial, h⟩
def LLe : List AV → List AV → Prop
  | [], bs => bs = []
  | a :: ls, bs => ∃ b bs', bs = b :: bs' ∧ VLe a b ∧ LLe ls bs'
theorem LLe.nil : LLe [] [] := rfl
theorem LLe.cons {a b : AV} {ls bs : List AV} (h : VLe a b) (h2 : LLe ls bs) : LLe (a :: ls) (b :: bs) := ⟨b, bs, rfl, h, h2⟩
theorem LLe.ok {κ : K} : ∀ {ls bs : List AV} {vs : List Value}, LLe ls bs → VRs κ ls vs → VRs κ bs vs
  | [], _, _, h, hv => by simp only [LLe] at h; subst h; exact hv
  | a :: ls, _, _, h, hv => by
    obtain ⟨b, bs', rfl, h1, h2⟩ := h
    simp only [VRs] at hv ⊢
    obtain ⟨v, vs, rfl, g1, g2⟩ := hv
    exact ⟨v, vs, rfl, h1 _ _ g1, LLe.ok h2 g2⟩
theorem VLe.agg {ls bs : List AV} (h : LLe ls bs) : VLe (.agg ls) (.agg bs) := fun κ cv hv => by
  simp only [VR] at hv ⊢
  obtain ⟨vs, rfl, hv⟩ := hv
  exact ⟨vs, rfl, h.ok hv⟩
theorem VLe.tup {ls bs : List AV} (h : LLe ls bs) : VLe (.tup ls) (.tup bs) := fun κ cv hv => by
  simp only [VR] at hv ⊢
  obtain ⟨vs, rfl, hv⟩ := hv
  exact ⟨vs, rfl, h.ok hv⟩
theorem VLe.trans {a b c : AV} (h : VLe a b) (h2 : VLe b c) : VLe a c := fun κ cv hv => h2 κ cv (h κ cv hv)
theorem th_int (st st' : St) (n : Nat) (k : IntKind) (i : Int) : th st st' n (.int k i) = .int k i := by cases n <;> rfl
theorem th_bool (st st' : St) (n : Nat) (b : Bool) : th st st' n (.bool b) = .bool b := by cases n <;> rfl
theorem th_nils (st st' : St) (n : Nat) : th st st' n .nils = .nils := by cases n <;> rfl
section
variable {E : Env} {st : St}
theorem ACalls.thawL {f : FuncId} {args : List AV} {R R' : AEnd → St → Prop} (h : ACalls E f args st R') (hr : ∀ x st1, R' x st1 → ∃ n st2 v v', x = .ret v ∧ St.sub st2 st1 ∧ VLe (th st1 st2 n v) v' ∧ R (.ret v') st2) : ACalls E f args st R := by
  intro κ w cargs hR hargs
  refine CallsIn.mono (h κ w cargs hR hargs) ?_
  rintro e w' ⟨κ', x, st1, hle, hR', he, hq⟩
  obtain ⟨n, st2, v, v', rfl, hs, hv, hq2⟩ := hr x st1 hq
  refine ⟨κ'.freeze st1 st2 w', _, st2, hle.trans (K.le_freeze hR' st2), hR'.freeze hs, ?_, hq2⟩
  obtain ⟨cv, rfl, hcv⟩ := he
  exact ⟨cv, rfl, hv _ _ (th_ok hR' hs n v cv hcv)⟩
end
section
variable {β σ st : St} {t : TypeId} {sz : Nat} {v : AV} {es : List (List AV)}
theorem SW.thL (h : SW β t sz v σ es) (hs : st.sub β) (n : Nat) (hv : ∀ e ∈ es, ∀ c ∈ e, Go.Abs.th σ st n c = c) : VLe (Go.Abs.th σ st (n + 1) v) (.tree sz es) := by
  rcases h.own with ⟨rfl, rfl⟩ | ⟨ia, g, rfl, e2, e3⟩
  · exact VLe.nil sz
  · have hn : st ia = none := by
      cases hx : st ia with
      | none => rfl
      | some B => have := hs ia B hx; rw [e3] at this; cases this
    have hm : (es.map fun e => e.map (Go.Abs.th σ st n)) = es := by
      rw [List.map_congr_left (g := id) fun e he => by
        show e.map _ = e
        rw [List.map_congr_left (g := id) fun c hc => hv e he c hc]; simp]
      simp
    refine VLe.of_eq ?_
    simp only [Go.Abs.th, e2, hn]
    simp only [true_and, Nat.zero_add, Nat.le_refl, if_true, hm]
    simp
end
end Go.Abs

/- THE ABSTRACT MEMORY (part 41): a store in a drawn region. -/
namespace Go.Abs
open Go.RowKit
section
variable {E : Env} {r : Option Nat} {Q : APost} {ops : Array Oper}
theorem Moves.store {i : Nat} {o : Oper} {a : AA} {st : St} {t t0 : TypeId} {x y : Operand} {id g sz k f : Nat} {es : List (List AV)} {cs : List AV} (hi : ops[i]? = some o) (hg : o.guard = none) (ho : o.op = .store t x y) (hx : evU E a x = .ptr id g k f) (hcs : evCs E a [x, y]) (hst : st id = some (.cells t0 g sz es)) (hv : aCells (evU E a y) = some cs) (hone : cs.all isCell = true) (hn : tsz E.P t = some cs.length) (hk : k < es.length) (hf : f + cs.length ≤ sz) :
    Moves E r ops Q i (fun v st' => v = .tup [] ∧ st' = st.set id (.cells t0 g sz (es.set k (splice (es.getD k []) f cs)))) a st :=
  Moves.of hi hg fun a' Kn hs hkk => by
    have e1 := same_get (E := E) hs x (by rw [ho]; simp [Op.operands])
    have e2 := same_get (E := E) hs y (by rw [ho]; simp [Op.operands])
    exact AOp.store (cs := cs) ho (by simp only [evU, e1]; exact hx) (by simp only [evCs, evC, e1, e2] at hcs ⊢; exact hcs) hst (by simp only [evU, e2]; exact hv) hone hn hk hf (hkk _ _ ⟨rfl, rfl⟩)
theorem Fixed.guard_loadCell {i : Nat} {o : Oper} {a : AA} {st : St} {t t0 : TypeId} {x : Operand} {id g sz k f : Nat} {es : List (List AV)} {j d : Nat} {want gg : Bool} (hi : ops[i]? = some o) (hg : o.guard = some (j, want)) (hd : (ops[j]?).bind (·.dst) = some d) (hy : agd (a.get d) want = some gg)
    (ho : o.op = .load t x) (hx : gg = true → evU E a x = .ptr id g k f) (hcs : gg = true → evC E a x) (hst : st id = some (.cells t0 g sz es)) (hag : aggT E.P t = some false) (hk : gg = true → k < es.length) (hf : f < sz) :
    Fixed E r ops Q i (.opt gg ((es.getD k []).getD f .junk)) a st := by
  refine ⟨o, hi, fun a' rest hs hkk => ?_⟩
  have e1 : a'.ev E x = a.ev E x := same_get hs x (by rw [ho]; simp [Op.operands])
  have e2 : a'.get d = a.get d := same_guard hs hg hd
  refine AOps.guard_loadCell hi hg hd (by rw [e2]; exact hy) ho (fun h => by simp only [evU, e1]; exact hx h) (fun h => by simp only [evC, e1]; exact hcs h) hst hag hk hf ?_
  rw [hi]; exact hkk
end
theorem SW.cell {β σ : St} {t : TypeId} {sz : Nat} {v : AV} {es : List (List AV)} (h : SW β t sz v σ es) : unO v = v ∧ unC v = True ∧ aCells v = some [v] ∧ isCell v = true := by
  rcases h.own with ⟨rfl, _⟩ | ⟨_, _, rfl, _⟩ <;> simp [unO, unC, aCells, isCell]
theorem AW.cutE {E : Env} {r : Option Nat} {a : AA} {st : St} {ι : Type} {c c2 : Code} {Q2 Q3 : APost} (F : ι → List AV) (M : ι → St) (I : ι → Prop)
    (h1 : AW E r c (AThen (fun a' st' => ∃ i, I i ∧ Weak a'.tm (F i) ∧ a'.ds = a.ds ∧ st' = M i) Q3) a st) (h2 : ∀ i, I i → AW E r c2 Q2 { tm := F i, ds := a.ds } (M i)) : AW E r c (AThen (AW E r c2 Q2) Q3) a st := by
  refine AW.mono h1 fun x a' st' h => ?_
  cases x with
  | normal =>
    obtain ⟨i, hI, hw, hd, rfl⟩ := h
    show AW E r c2 Q2 a' _
    refine AW.weak hw ?_
    rw [hd]; exact h2 i hI
  | _ => exact h
theorem AW.cutB {E : Env} {r : Option Nat} {a : AA} {st : St} {ι : Type} {c c2 : Code} {id : Nat} {Q2 Q3 : APost} (F : ι → List AV) (M : ι → St) (I : ι → Prop)
    (h1 : AW E r c (AInBlock id (AThen (fun a' st' => ∃ i, I i ∧ Weak a'.tm (F i) ∧ a'.ds = a.ds ∧ st' = M i) Q3)) a st) (h2 : ∀ i, I i → AW E r c2 Q2 { tm := F i, ds := a.ds } (M i)) : AW E r c (AInBlock id (AThen (AW E r c2 Q2) Q3)) a st := by
  refine AW.mono h1 fun x a' st' h => ?_
  have key : (∃ i, I i ∧ Weak a'.tm (F i) ∧ a'.ds = a.ds ∧ st' = M i) → AW E r c2 Q2 a' st' := by
    rintro ⟨i, hI, hw, hd, rfl⟩
    refine AW.weak hw ?_
    rw [hd]; exact h2 i hI
  cases x with
  | normal => exact key h
  | exit id' =>
    simp only [AInBlock] at h ⊢
    split
    · rename_i e; rw [if_pos e] at h; exact key h
    · rename_i e; rw [if_neg e] at h; exact h
  | _ => exact h
end Go.Abs

/- THE ABSTRACT MEMORY (part 42): a slice that a walk made is given up, as what it holds. -/
namespace Go.Abs
open Go.RowKit
section
variable {E : Env} {κ : K} {st : St} {w : World} {a : AA} {act : Act} {r : Option Nat} {Q : APost}
theorem Rel.conv (h : Rel E κ st w) {id : Nat} {B B' : Blk} (hst : st id = some B) (hc : ∀ L, κ.loc id = some L → BR κ w L B → BR κ w L B') : Rel E κ (st.set id B') w := by
  have hs : ∀ i, ((st.set id B') i).isSome → (st i).isSome := fun i hi => by
    by_cases e : i = id
    · subst e; rw [hst]; rfl
    · rwa [St.set_ne _ _ e] at hi
  refine ⟨fun i Bi hi => ?_, fun i j Li Lj hi hj h1 h2 h3 => h.inj i j Li Lj (hs i hi) (hs j hj) h1 h2 h3, h.fzw, fun i L o hi hL => h.sep i L o (hs i hi) hL, h.bnd, h.bel, h.n0, h.glob, h.wf⟩
  by_cases e : i = id
  · subst e
    rw [St.set_same] at hi; cases hi
    obtain ⟨L, h1, h2, h3, h4⟩ := h.dom i B hst
    exact ⟨L, h1, hc L h1 h2, h3, h4⟩
  · rw [St.set_ne _ _ e] at hi
    exact h.dom i Bi hi
theorem LLe.refl : ∀ l : List AV, LLe l l
  | [] => LLe.nil
  | x :: l => LLe.cons (VLe.refl x) (LLe.refl l)
theorem LLe.length : ∀ {l m : List AV}, LLe l m → m.length = l.length
  | [], _, h => by simp only [LLe] at h; subst h; rfl
  | x :: l, _, h => by obtain ⟨y, m', rfl, _, h2⟩ := h; simp [h2.length]
end
end Go.Abs

/- THE ABSTRACT MEMORY (part 43): a slice that a walk made, in a temporary, is given up as what it holds. -/
namespace Go.Abs
open Go.RowKit
section
variable {E : Env} {κ : K} {st : St} {w : World} {a : AA} {act : Act} {r : Option Nat} {Q : APost}
theorem AW.settleT {c : Code} {β : St} {e : TypeId} {sz : Nat} {v : AV} {es : List (List AV)} (t : Nat) (ht : a.get t = v) (h : SW β e sz v st es) (hes : ∀ e ∈ es, ∀ c ∈ e, th st β 0 c = c)
    (hk : AW E r c Q (a.put (some t) (.tree sz es)) β) : AW E r c Q a st := by
  intro κ w act rd hR hA hr
  have hsub : β.sub st := fun i B hi => by rw [h.keep i (by simp [hi]), hi]
  have hR2 := hR.freeze hsub
  have hK := K.le_freeze hR β
  have hth : VLe (th st β 1 v) (.tree sz es) := h.thL (St.sub_refl β) 0 hes
  have hcv : VR κ v (act.tmps.toList.getD t undef) := by
    have := VRs_getD hA.t t
    rw [← ht]; exact this
  have hnew : VR (κ.freeze st β w) (.tree sz es) (act.tmps.toList.getD t undef) := hth _ _ (th_ok hR hsub 1 v _ hcv)
  have hA' := (hA.mono hK).put (some t) hnew
  have hact : act.put (some t) (act.tmps.toList.getD t undef) = act := by
    have : act.tmps.setIfInBounds t (act.tmps.toList.getD t undef) = act.tmps := by
      refine Array.toList_inj.1 ?_
      refine List.ext_getElem? fun i => ?_
      rw [Array.toList_setIfInBounds, List.getElem?_set]
      split
      · rename_i e
        subst e
        split
        · rename_i hi
          simp [List.getD, List.getElem?_eq_getElem hi]
        · rename_i hi
          rw [List.getElem?_eq_none (by omega)]
      · rfl
    simp only [Act.put, this]
  rw [hact] at hA'
  exact wpIn_mono (hk _ w act rd hR2 hA' (hr.mono hK)) fun _ _ _ hu => upX_le hK (fun _ _ _ h => h) hu
end
end Go.Abs

/- THE ABSTRACT MEMORY (part 51): drawn regions: a call that may wait; bytes told as a text. -/
namespace Go.Abs
open Go.RowKit
section
variable {E : Env} {r : Option Nat} {Q : APost} {ops : Array Oper}
theorem FxM.fixedL {n : Nat} {B : List Nat} {Kn : ANext} {i : Nat} {rest : List Nat} {a : AA} {st : St} {v : AV} (hb : B.contains i = false) (h : ∀ st', Fixed E r ops Q i v a st') (hk : FxM E r ops Q n B Kn rest (a.put ((ops[i]?).bind (·.dst)) v) st) : FxM E r ops Q n B Kn (i :: rest) a st :=
  .inl ⟨hb, v, h st, fun _ st' => h st', hk⟩
theorem Fixed.toStr {i : Nat} {o : Oper} {a : AA} {st : St} {src dst e : TypeId} {x : Operand} {s : List UInt8} (hi : ops[i]? = some o) (hg : o.guard = none) (ho : o.op = .convert src dst x) (hcs : evC E a x) (hs : E.P.underlying src = some (.slice e)) (hd : E.P.underlying dst = some .string) (he : E.P.underlying e = some (.int .u8))
    (hx : (evU E a x = .nils ∧ s = []) ∨ (aElems st (evU E a x) = some (bytesE s) ∧ aSz (evU E a x) = some 1)) : Fixed E r ops Q i (.str s) a st := by
  refine ⟨o, hi, fun a' rest hs' hk' => ?_⟩
  have e1 : a'.ev E x = a.ev E x := same_get hs' x (by rw [ho]; simp [Op.operands])
  exact AOps.cons hi hg (AOp.toStr ho (by simp only [evC, e1]; exact hcs) hs hd he (by simp only [evU, e1]; exact hx) hk')
end
end Go.Abs

/- THE ABSTRACT MEMORY (part 53): a slice of parts that is never written: told as what it holds, at once. -/
namespace Go.Abs
open Go.RowKit
section
variable {E : Env} {κ : K} {st : St} {w : World} {a : AA} {act : Act} {r : Option Nat} {Q : APost} {Kn : ANext} {o : Oper} {ops : Array Oper}
theorem AOp.buildSliceF {t e : TypeId} {len sz : Nat} {parts : Array (Nat × Operand)} {es : List (List AV)} (ho : o.op = .buildSlice t len parts) (ht : E.P.underlying t = some (.slice e)) (hz : tsz E.P e = some sz) (hzz : hasZero E.P e = some sz)
    (hc : partsC E a parts.toList) (hp : aParts E a 0 parts.toList = some es) (hes : ∀ e ∈ es, e.length = sz) (hlen : es.length = len) (hpos : 0 < sz) (hlim : len * sz ≤ 16777216)
    (h : Kn (a.put o.dst (.tree sz es)) st) : AOp E r o Kn Q a st := by
  refine AOp.of_value (s := Sem.halt .blocked) (fun c => by rw [ho]; simp) fun κ w act hR hA => ?_
  obtain ⟨id, hid1, hid2⟩ := hR.fresh
  obtain ⟨i, zv, hi, hizero, hzsz⟩ := zero_info hzz
  have hisz : i.size = sz := by simp [tsz, hi] at hz; exact hz
  obtain ⟨q1, q2⟩ := parts_ok hR hA parts.toList 0 hp hc hes
  let zero : Array Value := if len * sz = 0 then #[] else zv.cells
  obtain ⟨cells', hf1, hf2, hf3⟩ := fill_ok (κ := κ) (N := len) (sz := sz) (parts.toList.map fun (i, x) => (i, act.eval x)) es [] ((Array.range (len * sz)).map (fun j => zero[j % zero.size]!)) (by simpa using q1) (by simp) (by simpa using Nat.le_of_eq hlen) (by simp [VRE])
  have hmax : len ≤ maxLen := by
    have : len * 1 ≤ len * sz := Nat.mul_le_mul_left _ (by omega)
    simp only [maxLen]; omega
  have hrun : (execOp act.eval o).run E.P w = .ok (.value (.slice (some ⟨w.heap.size, 0, none⟩) len len)) (w.alloc (.cells cells' e)) := by
    have hlim' : ¬ (16777216 < len * sz) := by omega
    have hf1' : Instr.fill (fun i => some (i * sz, sz)) ((Array.range (len * sz)).map (fun j => zero[j % zero.size]!)) (parts.map fun (i, x) => (i, act.eval x)).toList = some cells' := by simpa using hf1
    have h24 : ¬ (len * sz > 2 ^ 24) := by omega
    have hpm : (parts.map fun x => (x.1, act.eval x.2)).toList = parts.toList.map fun (i, x) => (i, act.eval x) := by simp
    by_cases h0 : len * sz = 0
    · have hz0 : zero = #[] := by simp only [zero, if_pos h0]
      rw [hz0] at hf1
      simp only [execOp, ho, Instr.buildSlice, Sem.run_bind, run_underlying ht, run_sz hz, Result.andThen, if_neg h24, if_pos h0, Sem.run_pure, hpm, hf1, newRow, newObj, Sem.run]
      rfl
    · have hz0 : zero = zv.cells := by simp only [zero, if_neg h0]
      rw [hz0] at hf1
      simp only [execOp, ho, Instr.buildSlice, Sem.run_bind, run_underlying ht, run_sz hz, Result.andThen, if_neg h24, if_neg h0, zeroValue, typeInfo, run_program, hi, hizero, Sem.run_pure, hpm, hf1, newRow, newObj, Sem.run]
      rfl
  · obtain ⟨hR', hle⟩ := hR.newCells hid1 (sz := sz) (cap := len) (es := es) (c := cells') (t := e) (by omega) hmax (by rw [hf2]) (by simpa using hf3)
    have hsub : st.sub (st.set id (.cells e 0 sz es)) := St.sub_set (St.sub_refl st) hid2 _
    have hown : SW st e sz (.arr id 0 sz 0 len) (st.set id (.cells e 0 sz es)) es := ⟨.inr ⟨id, 0, by rw [hlen], St.set_same _ _ _, hid2⟩, fun i hi => St.set_ne _ _ (fun e => hi (by rw [e]; exact hid2))⟩
    have hv : VR (κ.set id ⟨0, w.heap.size, len, sz⟩) (.arr id 0 sz 0 len) (.slice (some ⟨w.heap.size, 0, none⟩) len len) := by
      simp only [VR, K.set_same, Option.some.injEq]
      exact ⟨_, _, _, rfl, ⟨rfl, Nat.le_refl _⟩, rfl, rfl, Nat.le_refl _, fun _ => .inl ⟨by simp, by simp, by simp⟩⟩
    exact ⟨_, _, .tree sz es, _, _, hrun, hle.trans (K.le_freeze hR' st), hR'.freeze hsub, hown.thL (St.sub_refl st) 0 (fun _ _ _ _ => rfl) _ _ (th_ok hR' hsub 1 _ _ hv), h⟩
theorem Fixed.buildSliceF {i : Nat} {o : Oper} {a : AA} {st : St} {t e : TypeId} {len sz : Nat} {parts : Array (Nat × Operand)} {es : List (List AV)} (hi : ops[i]? = some o) (hg : o.guard = none) (ho : o.op = .buildSlice t len parts) (ht : E.P.underlying t = some (.slice e)) (hz : tsz E.P e = some sz) (hzz : hasZero E.P e = some sz)
    (hc : partsC E a parts.toList) (hp : aParts E a 0 parts.toList = some es) (hes : ∀ e ∈ es, e.length = sz) (hlen : es.length = len) (hpos : 0 < sz) (hlim : len * sz ≤ 16777216) : Fixed E r ops Q i (.tree sz es) a st := by
  refine ⟨o, hi, fun a' rest hs hk' => ?_⟩
  have he : ∀ p ∈ parts.toList, a'.ev E p.2 = a.ev E p.2 := fun p hp2 => same_get hs p.2 (by rw [ho]; simp only [Op.operands, Array.toList_map, List.mem_map]; exact ⟨p, hp2, rfl⟩)
  obtain ⟨h1, h2⟩ := aParts_congr (a := a) (a' := a') (k := 0) he
  exact AOps.cons hi hg (AOp.buildSliceF ho ht hz hzz (h2 hc) (by rw [h1]; exact hp) hes hlen hpos hlim hk')
end
end Go.Abs

/- THE ABSTRACT MEMORY (part 55): drawn regions with moves: guarded operations that only reckon; a guarded operation, by cases on its guard. -/
namespace Go.Abs
open Go.RowKit
section
variable {E : Env} {r : Option Nat} {Q : APost} {ops : Array Oper} {Kn : ANext}
def FxMG (E : Env) (r : Option Nat) (ops : Array Oper) (Q : APost) (n : Nat) (B : List Nat) (Kn : ANext) : List Nat → AA → St → Prop
  | [], a, st => Kn a st
  | i :: rest, a, st =>
    match ops[i]? with
    | none => False
    | some o =>
      match o.guard with
      | none =>
        match pureOp E a o.op with
        | some (c, v) => c ∧ FxMG E r ops Q n B Kn rest (a.put o.dst v) st
        | none => FxM E r ops Q n B Kn (i :: rest) a st
      | some (j, want) =>
        match (ops[j]?).bind (·.dst) with
        | none => False
        | some d =>
          match agd (a.get d) want with
          | none => False
          | some g =>
            match pureOp E a o.op with
            | some (c, v) => (g = true → c) ∧ optC g v ∧ FxMG E r ops Q n B Kn rest (a.put o.dst (optV g v)) st
            | none => FxM E r ops Q n B Kn (i :: rest) a st
theorem FxMG_ok {n : Nat} {B : List Nat} (hno : ∀ i ∈ B, ∀ a o, ops[i]? = some o → pureOp E a o.op = none) : ∀ (l : List Nat) (a : AA) (st : St), FxMG E r ops Q n B Kn l a st → FxM E r ops Q n B Kn l a st
  | [], a, st, h => h
  | i :: rest, a, st, h => by
    simp only [FxMG] at h
    split at h
    · exact h.elim
    · rename_i o ho
      have hdst : (ops[i]?).bind (·.dst) = o.dst := by rw [ho]; rfl
      have hB : ∀ c v, pureOp E a o.op = some (c, v) → B.contains i = false := fun c v hp => by
        cases hb : B.contains i with
        | false => rfl
        | true => rw [hno i (by simpa using hb) a o ho] at hp; cases hp
      split at h
      · rename_i hg
        split at h
        · rename_i c v hp
          exact .inl ⟨hB c v hp, v, Fixed.pure ho hg hp h.1, fun _ _ => Fixed.pure ho hg hp h.1, by rw [hdst]; exact FxMG_ok hno rest _ st h.2⟩
        · exact h
      · rename_i j want hg
        split at h
        · exact h.elim
        · rename_i d hd
          split at h
          · exact h.elim
          · rename_i g hy
            split at h
            · rename_i c v hp
              exact .inl ⟨hB c v hp, optV g v, Fixed.guard_pure ho hg hd hy hp h.1 h.2.1, fun _ _ => Fixed.guard_pure ho hg hd hy hp h.1 h.2.1, by rw [hdst]; exact FxMG_ok hno rest _ st h.2.2⟩
            · exact h
attribute [go_sem] FxMG
end
end Go.Abs

/- THE ABSTRACT MEMORY (part 44): 'for i, c := range s' over a string: its iterator. -/
namespace Go.Abs
open Go.RowKit
section
variable {E : Env} {κ : K} {st : St} {w : World} {a : AA} {act : Act} {r : Option Nat} {Q : APost} {Kn : ANext} {o : Oper}
end
end Go.Abs

/- THE ABSTRACT MEMORY (part 46): '==' and '!=' at structs of plain fields. -/
namespace Go.Abs
open Go.RowKit
def conc : AV → Option Value
  | .int k n => some (.int k n)
  | .bool b => some (.bool b)
  | .str s => some (.string ⟨s.toArray⟩)
  | _ => none
def concs : List AV → Option (List Value)
  | [] => some []
  | a :: l => match conc a, concs l with
    | some v, some vs => some (v :: vs)
    | _, _ => none
theorem conc_VR {κ : K} {a : AV} {v cv : Value} (h : conc a = some v) (hv : VR κ a cv) : cv = v := by
  cases a <;> simp only [conc, reduceCtorEq, Option.some.injEq] at h <;> subst h <;> simpa [VR] using hv
theorem concs_VR {κ : K} : ∀ {l : List AV} {vs cvs : List Value}, concs l = some vs → VRs κ l cvs → cvs = vs
  | [], vs, cvs, h, hv => by simp only [concs, Option.some.injEq] at h; subst h; simpa [VRs] using hv
  | a :: l, vs, cvs, h, hv => by
    simp only [concs] at h
    split at h
    · rename_i v us h1 h2
      cases h
      simp only [VRs] at hv
      obtain ⟨c, cs, rfl, g1, g2⟩ := hv
      rw [conc_VR h1 g1, concs_VR h2 g2]
    · cases h
section
variable {E : Env} {κ : K} {st : St} {w : World} {a : AA} {act : Act} {r : Option Nat} {Q : APost} {Kn : ANext} {o : Oper}
theorem AOp.eqAgg {t t2 : TypeId} {x y : Operand} {cs ds : List AV} {us vs : List Value} {b : Bool} (ho : o.op = .binOp .eql t x y t2) (hcs : evCs E a [x, y]) (hx : evU E a x = .agg cs) (hy : evU E a y = .agg ds)
    (hu : concs cs = some us) (hv : concs ds = some vs) (hg : E.P.eqGuardType E.P.depth t = false) (heq : ∀ w, (Op.equal t (.agg us.toArray) (.agg vs.toArray)).run E.P w = .ok b w) (hk : Kn (a.put o.dst (.bool b)) st) : AOp E r o Kn Q a st := by
  refine AOp.of_value (s := Sem.halt .blocked) (fun c => by rw [ho]; simp) fun κ w act hR hA => ?_
  have hvx := unO_ok (hA.ev hR x) hcs.1
  have hvy := unO_ok (hA.ev hR y) hcs.2.1
  rw [show unO (a.ev E x) = evU E a x from rfl, hx] at hvx
  rw [show unO (a.ev E y) = evU E a y from rfl, hy] at hvy
  simp only [VR] at hvx hvy
  obtain ⟨xs, hxe, hx2⟩ := hvx
  obtain ⟨ys, hye, hy2⟩ := hvy
  have e1 := concs_VR hu hx2
  have e2 := concs_VR hv hy2
  have e3 : xs = us.toArray := by rw [← e1]
  have e4 : ys = vs.toArray := by rw [← e2]
  subst e3; subst e4
  refine ⟨.bool b, κ, .bool b, st, w, ?_, K.Le.refl κ, hR, by simp [VR], hk⟩
  simp only [execOp, ho, hxe, hye, Sem.run_bind, eqGuard]
  simp [Sem.run_bind, Go.binOp, heq w, Result.andThen, run_program, hg]
theorem AOp.neAgg {t t2 : TypeId} {x y : Operand} {cs ds : List AV} {us vs : List Value} {b : Bool} (ho : o.op = .binOp .neq t x y t2) (hcs : evCs E a [x, y]) (hx : evU E a x = .agg cs) (hy : evU E a y = .agg ds)
    (hu : concs cs = some us) (hv : concs ds = some vs) (hg : E.P.eqGuardType E.P.depth t = false) (heq : ∀ w, (Op.equal t (.agg us.toArray) (.agg vs.toArray)).run E.P w = .ok b w) (hk : Kn (a.put o.dst (.bool (!b))) st) : AOp E r o Kn Q a st := by
  refine AOp.of_value (s := Sem.halt .blocked) (fun c => by rw [ho]; simp) fun κ w act hR hA => ?_
  have hvx := unO_ok (hA.ev hR x) hcs.1
  have hvy := unO_ok (hA.ev hR y) hcs.2.1
  rw [show unO (a.ev E x) = evU E a x from rfl, hx] at hvx
  rw [show unO (a.ev E y) = evU E a y from rfl, hy] at hvy
  simp only [VR] at hvx hvy
  obtain ⟨xs, hxe, hx2⟩ := hvx
  obtain ⟨ys, hye, hy2⟩ := hvy
  have e1 := concs_VR hu hx2
  have e2 := concs_VR hv hy2
  have e3 : xs = us.toArray := by rw [← e1]
  have e4 : ys = vs.toArray := by rw [← e2]
  subst e3; subst e4
  refine ⟨.bool (!b), κ, .bool (!b), st, w, ?_, K.Le.refl κ, hR, by simp [VR], hk⟩
  simp only [execOp, ho, hxe, hye, Sem.run_bind, eqGuard]
  simp [Sem.run_bind, Go.binOp, heq w, Result.andThen, run_program, hg]
variable {ops : Array Oper}
theorem Fixed.neAgg {i : Nat} {t t2 : TypeId} {x y : Operand} {cs ds : List AV} {us vs : List Value} {b : Bool} (hi : ops[i]? = some o) (hgd : o.guard = none) (ho : o.op = .binOp .neq t x y t2) (hcs : evCs E a [x, y]) (hx : evU E a x = .agg cs) (hy : evU E a y = .agg ds)
    (hu : concs cs = some us) (hv : concs ds = some vs) (hg : E.P.eqGuardType E.P.depth t = false) (heq : ∀ w, (Op.equal t (.agg us.toArray) (.agg vs.toArray)).run E.P w = .ok b w) : Fixed E r ops Q i (.bool (!b)) a st := by
  refine ⟨o, hi, fun a' rest hs hk' => ?_⟩
  have e1 : a'.ev E x = a.ev E x := same_get hs x (by rw [ho]; simp [Op.operands])
  have e2 : a'.ev E y = a.ev E y := same_get hs y (by rw [ho]; simp [Op.operands])
  exact AOps.cons hi hgd (AOp.neAgg ho ⟨by simp only [evC, e1]; exact hcs.1, by simp only [evC, e2]; exact hcs.2.1, trivial⟩ (by simp only [evU, e1]; exact hx) (by simp only [evU, e2]; exact hy) hu hv hg heq hk')
end
end Go.Abs

/- THE ABSTRACT MEMORY (part 47): places that a walk has made, by a list; all else is as it was. -/
namespace Go.Abs
open Go.RowKit
structure MM (st : St) (l : List (Nat × Blk)) (σ : St) : Prop where
  nd : (l.map (·.1)).Nodup
  fr : ∀ p ∈ l, st p.1 = none
  val : ∀ p ∈ l, σ p.1 = some p.2
  sub : st.sub σ
section
variable {st σ : St} {l : List (Nat × Blk)} {i : Nat} {B : Blk}
theorem MM.nil (st : St) : MM st [] st := ⟨by simp, by simp, by simp, St.sub_refl st⟩
theorem MM.fresh (h : MM st l σ) (hi : σ i = none) : st i = none := by
  cases hx : st i with
  | none => rfl
  | some A => have := h.sub i A hx; rw [hi] at this; cases this
theorem MM.new (h : MM st l σ) (hi : σ i = none) (B : Blk) : MM st ((i, B) :: l) (σ.set i B) := by
  have hn : ∀ p ∈ l, p.1 ≠ i := fun p hp e => by have := h.val p hp; rw [e, hi] at this; cases this
  refine ⟨?_, fun p hp => ?_, fun p hp => ?_, St.sub_set h.sub (h.fresh hi) B⟩
  · simp only [List.map_cons, List.nodup_cons]
    refine ⟨fun hm => ?_, h.nd⟩
    obtain ⟨p, hp, e⟩ := List.mem_map.1 hm
    exact hn p hp e
  · rcases List.mem_cons.1 hp with rfl | q
    · exact h.fresh hi
    · exact h.fr p q
  · rcases List.mem_cons.1 hp with rfl | q
    · exact St.set_same _ _ _
    · rw [St.set_ne _ _ (hn p q)]; exact h.val p q
theorem MM.get (h : MM st l σ) (k : Nat) (hk : l[k]? = some (i, B)) : σ i = some B := h.val _ (List.mem_of_getElem? hk)
theorem MM.none (h : MM st l σ) (k : Nat) (hk : l[k]? = some (i, B)) : st i = none := h.fr _ (List.mem_of_getElem? hk)
theorem nodup_other {l : List (Nat × Blk)} (hn : (l.map (·.1)).Nodup) {k j : Nat} {p q : Nat × Blk} (hp : l[k]? = some p) (hq : l[j]? = some q) (h : j ≠ k) : q.1 ≠ p.1 := by
  have e1 : (l.map (·.1))[k]? = some p.1 := by simp [hp]
  have e2 : (l.map (·.1))[j]? = some q.1 := by simp [hq]
  intro e
  have hk : k < (l.map (·.1)).length := (List.getElem?_eq_some_iff.1 e1).1
  have hj : j < (l.map (·.1)).length := (List.getElem?_eq_some_iff.1 e2).1
  have g1 := (List.getElem?_eq_some_iff.1 e1).2
  have g2 := (List.getElem?_eq_some_iff.1 e2).2
  exact h ((List.getElem_inj hn).1 (by rw [g1, g2, e]))
theorem MM.put (h : MM st l σ) (k : Nat) (hk : l[k]? = some (i, B)) (B' : Blk) : MM st (l.set k (i, B')) (σ.set i B') := by
  have hkl : k < l.length := (List.getElem?_eq_some_iff.1 hk).1
  have hmap : (l.set k (i, B')).map (·.1) = l.map (·.1) := by
    rw [List.map_set]
    refine List.ext_getElem (by simp) fun n h1 h2 => ?_
    rw [List.getElem_set]
    split
    · rename_i e; subst e
      simp only [List.getElem_map]
      rw [(List.getElem?_eq_some_iff.1 hk).2]
    · rfl
  refine ⟨by rw [hmap]; exact h.nd, fun p hp => ?_, fun p hp => ?_, ?_⟩
  · rcases List.mem_or_eq_of_mem_set hp with q | q
    · exact h.fr p q
    · subst q; exact h.none k hk
  · obtain ⟨j, hj⟩ := List.mem_iff_getElem?.1 hp
    rw [List.getElem?_set] at hj
    split at hj
    · cases hj; exact St.set_same _ _ _
    · rename_i hne
      have := nodup_other h.nd hk hj (Ne.symm hne)
      rw [St.set_ne _ _ this]; exact h.val p (List.mem_of_getElem? hj)
  · intro j A hj
    have : j ≠ i := fun e => by subst e; rw [h.none k hk] at hj; cases hj
    rw [St.set_ne _ _ this]; exact h.sub j A hj
theorem MM.del (h : MM st l σ) (k : Nat) (hk : l[k]? = some (i, B)) : MM st (l.eraseIdx k) (σ.del i) := by
  have hsub : (l.eraseIdx k).Sublist l := List.eraseIdx_sublist l k
  refine ⟨List.Nodup.sublist (hsub.map _) h.nd, fun p hp => h.fr p (hsub.subset hp), fun p hp => ?_, ?_⟩
  · obtain ⟨j, hj, hne⟩ : ∃ j, l[j]? = some p ∧ j ≠ k := by
      obtain ⟨j, hj⟩ := List.mem_iff_getElem?.1 hp
      rw [List.getElem?_eraseIdx] at hj
      split at hj
      · exact ⟨j, hj, by omega⟩
      · exact ⟨j + 1, hj, by omega⟩
    have := nodup_other h.nd hk hj hne
    rw [St.del_ne _ this]; exact h.val p (List.mem_of_getElem? hj)
  · intro j A hj
    have : j ≠ i := fun e => by subst e; rw [h.none k hk] at hj; cases hj
    rw [St.del_ne _ this]; exact h.sub j A hj
end
end Go.Abs

/- THE ABSTRACT MEMORY (part 56): a round under a guard ('cond && !yield(..)'). -/
namespace Go.Abs
open Go.RowKit
section
variable {E : Env} {r : Option Nat} {Q : APost} {ops : Array Oper}
theorem AOps.guard_yields {i : Nat} {rest : List Nat} {o : Oper} {a : AA} {st : St} {x : Operand} {args : Array Operand} {tys : Array TypeId} {l : Nat} {vs : List AV} {R : Bool → St → Prop} {j d : Nat} {want g : Bool} (hi : ops[i]? = some o) (hg : o.guard = some (j, want)) (hd : (ops[j]?).bind (·.dst) = some d) (hy : agd (a.get d) want = some g)
    (ho : o.op = .call { callee := .value x, args := args, argTypes := tys }) (hx : g = true → evU E a x = .yld l) (hcs : g = true → evCs E a (x :: args.toList)) (hv : g = true → args.toList.map (evU E a) = vs)
    (h : g = true → YieldsTo E l vs st (fun v st' => ∃ b, v = .bool b ∧ R b st'))
    (hk : ∀ b st', (g = true → R b st') → (g = false → st' = st) → AOps E r ops Q rest (a.put ((ops[i]?).bind (·.dst)) (.opt g (.bool b))) st') : AOps E r ops Q (i :: rest) a st := by
  rw [hi] at hk
  refine AOps.guard hi hg hd hy (fun e => ?_) (fun e => ?_)
  · subst e
    refine AOp.yields ho (hx rfl) (hcs rfl) (hv rfl) (h rfl) ?_
    rintro v st' ⟨b, rfl, hR⟩
    exact AOps.putMono (fun κ cv h => VR_opt_true h) (hk b st' (fun _ => hR) (fun h => by cases h))
  · subst e
    exact AOps.putMono (fun κ cv h => VR_opt_false h) (hk true st (fun h => by cases h) (fun _ => rfl))
end
end Go.Abs

/- THE ABSTRACT MEMORY (part 57): a callee hands back a pointer to what it made: told as what it holds. -/
namespace Go.Abs
open Go.RowKit
section
variable {E : Env} {st : St}
theorem ACalls.thawP {f : FuncId} {args : List AV} {R R' : AEnd → St → Prop} (h : ACalls E f args st R')
    (hr : ∀ x st1, R' x st1 → ∃ (b sz : Nat) (t0 : TypeId) (cs : List AV), x = .ret (.ptr b 0 0 0) ∧ st1 b = some (.cells t0 0 sz [cs]) ∧ st b = none ∧ st.sub st1 ∧ R (.ret (.fptr cs)) st) : ACalls E f args st R := by
  intro κ w cargs hR hargs
  refine CallsIn.mono (h κ w cargs hR hargs) ?_
  rintro e w' ⟨κ', x, st1, hle, hR', he, hq⟩
  obtain ⟨id, sz, t0, cs, rfl, hst, hn, hs, hq2⟩ := hr x st1 hq
  have hK := K.le_freeze hR' st
  refine ⟨κ'.freeze st1 st w', .ret (.fptr cs), st, hle.trans hK, hR'.freeze hs, ?_, hq2⟩
  obtain ⟨cv, rfl, hv⟩ := he
  refine ⟨cv, rfl, ?_⟩
  obtain ⟨L, hL, hB, _, _⟩ := hR'.dom id _ hst
  obtain ⟨e1, e2, hl, hm', cc, fr, hh, hsz, hfr, hE⟩ := hB
  have hfz : ∀ o, (κ'.freeze st1 st w').fz L.b o = cc[o]? := by
    intro o
    simp only [K.freeze]
    rw [if_pos ⟨id, L, by simp [hst], by simp [hn], hL, rfl⟩]
    exact cell_of_cells hh o
  have hF : VRF (κ'.freeze st1 st w') ((κ'.freeze st1 st w').fz L.b) cs 0 := by
    simp only [VRE] at hE
    exact VRF.mono hK cs _ _ (fun o v hv => by rw [hfz]; exact hv) 0 hE.2.1
  simp only [VR] at hv ⊢
  obtain ⟨ad, L', hv, hL', _, ha⟩ := hv
  rw [hL] at hL'; cases hL'
  have := ha e1
  subst this
  exact ⟨L.b, 0 * L.sz + 0, by rw [hv], by simpa using hF⟩
end
end Go.Abs

/- THE ABSTRACT MEMORY (part 52): structs are told apart under a guard. -/
namespace Go.Abs
open Go.RowKit
section
variable {E : Env} {r : Option Nat} {Q : APost} {ops : Array Oper}
theorem AOps.guard_neAgg {i : Nat} {rest : List Nat} {o : Oper} {a : AA} {st : St} {t t2 : TypeId} {x y : Operand} {cs ds : List AV} {us vs : List Value} {b : Bool} {j d : Nat} {want gg : Bool} (hi : ops[i]? = some o) (hg : o.guard = some (j, want)) (hd : (ops[j]?).bind (·.dst) = some d) (hy : agd (a.get d) want = some gg)
    (ho : o.op = .binOp .neq t x y t2) (hcs : gg = true → evCs E a [x, y]) (hx : gg = true → evU E a x = .agg cs) (hy2 : gg = true → evU E a y = .agg ds)
    (hu : concs cs = some us) (hv : concs ds = some vs) (hgt : E.P.eqGuardType E.P.depth t = false) (heq : ∀ w, (Op.equal t (.agg us.toArray) (.agg vs.toArray)).run E.P w = .ok b w)
    (hk' : AOps E r ops Q rest (a.put ((ops[i]?).bind (·.dst)) (.opt gg (.bool (!b)))) st) : AOps E r ops Q (i :: rest) a st := by
  rw [hi] at hk'
  refine AOps.guard hi hg hd hy (fun e => ?_) (fun e => by subst e; exact AOps.putMono (fun κ cv h => VR_opt_false h) hk')
  subst e
  exact AOp.neAgg ho (hcs rfl) (hx rfl) (hy2 rfl) hu hv hgt heq (AOps.putMono (fun κ cv h => VR_opt_true h) hk')
end
end Go.Abs

/- THE ABSTRACT MEMORY (part 58): 'clear' of a slice of one-cell elements. -/
namespace Go.Abs
open Go.RowKit
section
variable {E : Env} {κ : K} {st : St} {w : World} {a : AA} {act : Act} {r : Option Nat} {Q : APost} {Kn : ANext} {o : Oper}
def ovr (es : List (List AV)) (off : Nat) (xs : List AV) : List (List AV) := es.take off ++ xs.map (fun x => [x]) ++ es.drop (off + xs.length)
theorem ovr_length {es : List (List AV)} {off : Nat} {xs : List AV} (h : off + xs.length ≤ es.length) : (ovr es off xs).length = es.length := by
  simp [ovr]; omega
theorem ovr_in {es : List (List AV)} {off i : Nat} {xs : List AV} (h : off + xs.length ≤ es.length) (h1 : off ≤ i) (h2 : i < off + xs.length) : (ovr es off xs).getD i [] = [xs.getD (i - off) .junk] := by
  have e1 : (es.take off).length = off := by simp; omega
  rw [List.getD, ovr, List.append_assoc, List.getElem?_append_right (by omega), e1, List.getElem?_append_left (by simp; omega)]
  simp [List.getD, List.getElem?_eq_getElem (show i - off < xs.length by omega)]
theorem ovr_out {es : List (List AV)} {off i : Nat} {xs : List AV} (h : off + xs.length ≤ es.length) (h1 : i < off ∨ off + xs.length ≤ i) : (ovr es off xs).getD i [] = es.getD i [] := by
  have e1 : (es.take off).length = off := by simp; omega
  rw [List.getD, ovr, List.append_assoc]
  rcases h1 with h1 | h1
  · rw [List.getElem?_append_left (by omega), List.getElem?_take_of_lt h1]; rfl
  · rw [List.getElem?_append_right (by omega), e1, List.getElem?_append_right (by simp; omega), List.getElem?_drop]
    simp only [List.length_map]
    rw [show off + xs.length + (i - off - xs.length) = i by omega]; rfl
theorem Rel.writeN (hR : Rel E κ st w) {t0 : TypeId} {id g off : Nat} {es : List (List AV)} (hst : st id = some (.cells t0 g 1 es)) {xs : List AV} {vs : List Value} (hv : VRs κ xs vs) (hb : off + xs.length ≤ es.length) :
    ∃ L, κ.loc id = some L ∧ L.gen = g ∧ L.sz = 1 ∧ Rel E (κ.set id L) (st.set id (.cells t0 g 1 (ovr es off xs))) (w.setCells L.b off vs) ∧ K.Le κ (κ.set id L) ∧
      (∀ j, j < vs.length → (w.cell? ⟨L.b, off + j, none⟩).isSome = true) ∧ (∀ j, j < vs.length → w.frozen? ⟨L.b, off + j, none⟩ = false) := by
  obtain ⟨L, hL, hB, hown, hlt⟩ := hR.dom id _ hst
  obtain ⟨e1, e2, hl, hm, c, fr, hh, hsz, hfr, hE⟩ := hB
  have hvl := VRs_len hv
  have hle : ∀ L0, κ.loc id = some L0 → L0.gen ≤ L.gen ∧ (L.gen = L0.gen → L = L0) ∧ L.sz = L0.sz := fun L0 h0 => by rw [hL] at h0; cases h0; exact ⟨Nat.le_refl _, fun _ => rfl, rfl⟩
  have hK : K.Le κ (κ.set id L) := K.le_set hle
  have hnew : VRE κ (fun o => (setArr c off vs)[o]?) 1 (ovr es off xs) 0 := by
    rw [VRE_iff] at hE ⊢
    intro i hi
    rw [ovr_length hb] at hi
    obtain ⟨q1, q2⟩ := hE i hi
    simp only [Nat.zero_add, Nat.mul_one] at q2 ⊢
    by_cases h1 : off ≤ i ∧ i < off + xs.length
    · rw [ovr_in hb h1.1 h1.2]
      refine ⟨rfl, ?_⟩
      simp only [VRF, and_true]
      obtain ⟨v, g1, g2⟩ := VRs_get hv (i := i - off) (by omega)
      refine ⟨v, ?_, g2⟩
      rw [← g1, show i = off + (i - off) from by omega]
      exact (setArr_in _ _ _ _ (by omega) (by omega)).trans (by rw [show off + (i - off) - off = i - off by omega])
    · rw [ovr_out hb (by omega)]
      refine ⟨q1, ?_⟩
      rw [VRF_iff] at q2 ⊢
      intro j hj
      obtain ⟨v, g1, g2⟩ := q2 j hj
      exact ⟨v, by rw [← g1]; exact setArr_out _ _ _ _ (by omega), g2⟩
  refine ⟨L, hL, e1, e2, hR.put hle (setCells_grownBy vs w L.b _) ?_ ?_ (.inl ⟨L, by simp [hst], hL, rfl⟩), hK, fun j hj => ?_, fun j hj => ?_⟩
  · exact ⟨e1, e2, by rw [ovr_length hb]; exact hl, hm, _, fr, setCells_heap vs hh, by rw [setArr_size]; exact hsz, hfr, VRE.mono hK 1 _ _ _ (fun _ _ h => h) 0 hnew⟩
  · exact Nat.lt_of_lt_of_le hlt (setCells_grownBy vs w L.b _).size
  · rw [cell_of_cells hh]
    have : off + j < c.size := by omega
    simp [this]
  · simp only [World.frozen?, hh]
    exact hfr _ (by omega)
theorem VRs_replicate {z : AV} {cz : Value} (hv : VR κ z cz) : ∀ n, VRs κ (List.replicate n z) (List.replicate n cz)
  | 0 => by simp [VRs]
  | n + 1 => by simp only [List.replicate_succ, VRs]; exact ⟨_, _, rfl, hv, VRs_replicate hv n⟩
theorem AOp.clear {t e : TypeId} {x : Operand} {id g off len : Nat} {t0 : TypeId} {es : List (List AV)} {z : AV} {cz : Value} (ho : o.op = .call { callee := .builtin .clear, args := #[x], argTypes := #[t] }) (hx : evU E a x = .arr id g 1 off len) (hcs : evC E a x) (ht : E.P.underlying t = some (.slice e))
    (hzv : ∀ w, (zeroValue e).run E.P w = .ok cz w) (hc1 : cz.cells = #[cz]) (h1 : cz.oneCell' = true) (hv : ∀ κ, VR κ z cz) (hst : st id = some (.cells t0 g 1 es)) (hb : off + len ≤ es.length)
    (hk : Kn (a.put o.dst (.tup [])) (st.set id (.cells t0 g 1 (ovr es off (List.replicate len z))))) : AOp E r o Kn Q a st := by
  intro κ w act rd hR hA hr
  have hvx := unO_ok (hA.ev hR x) hcs
  rw [show unO (a.ev E x) = evU E a x from rfl, hx] at hvx
  simp only [VR] at hvx
  obtain ⟨ad, cap, L', hxe, hsp, hL', hsz, hg, ha⟩ := hvx
  obtain ⟨L, hL, e1, e2, hR', hK, hc, hfr⟩ := hR.writeN (off := off) hst (VRs_replicate (κ := κ) (hv κ) len) (by simpa using hb)
  rw [hL] at hL'; cases hL'
  refine ⟨fun _ _ => trivial, ?_⟩
  rw [semAt_of (fun c => by rw [ho]; simp)]
  have hrun : (execOp act.eval o).run E.P w = .ok (.value (.tuple #[])) (w.setCells L'.b off (List.replicate len cz)) := by
    rcases ha e1 with ⟨hae, _, _⟩ | ⟨rfl, rfl⟩
    · cases len with
      | zero => simp [execOp, ho, resolve, invoke, builtin, Builtin.clear_, run_underlying ht, hxe, World.setCells]
      | succ n =>
        have hz : (Builtin.zeroCells cz.cells (n + 1)).toList = List.replicate (n + 1) cz := by
          rw [hc1]
          refine List.ext_getElem (by simp [Builtin.zeroCells]) fun i q1 q2 => ?_
          simp [Builtin.zeroCells, Nat.mod_one]
        have hs := run_storeCells_cells (P := E.P) L'.b off (List.replicate (n + 1) cz) 0 w (by simpa using hc) (by simpa using hfr) (by intro v hv2; rw [List.eq_of_mem_replicate hv2]; exact h1)
        simp only [Nat.add_zero] at hs
        rw [Nat.mul_one] at hae
        subst hae
        simp [execOp, ho, resolve, invoke, builtin, Builtin.clear_, run_underlying ht, hxe, hzv, hz, hs]
    · simp [execOp, ho, resolve, invoke, builtin, Builtin.clear_, run_underlying ht, hxe, World.setCells]
  rw [hrun]
  exact ⟨_, _, _, hK, hR', (hA.mono hK).put o.dst (by simp only [VR]; exact ⟨#[], rfl, by simp [VRs]⟩), hk⟩
end
end Go.Abs

/- THE ABSTRACT MEMORY (part 59): a slice of parts that is never written, under a guard. -/
namespace Go.Abs
open Go.RowKit
section
variable {E : Env} {r : Option Nat} {Q : APost} {ops : Array Oper}
theorem AOps.guard_buildSliceF {i : Nat} {rest : List Nat} {o : Oper} {a : AA} {st : St} {t e : TypeId} {len sz : Nat} {parts : Array (Nat × Operand)} {es : List (List AV)} {j d : Nat} {want g : Bool} (hi : ops[i]? = some o) (hg : o.guard = some (j, want)) (hd : (ops[j]?).bind (·.dst) = some d) (hy : agd (a.get d) want = some g)
    (ho : o.op = .buildSlice t len parts) (ht : E.P.underlying t = some (.slice e)) (hz : tsz E.P e = some sz) (hzz : hasZero E.P e = some sz)
    (hc : g = true → partsC E a parts.toList) (hp : g = true → aParts E a 0 parts.toList = some es) (hes : ∀ e ∈ es, e.length = sz) (hlen : es.length = len) (hpos : 0 < sz) (hlim : len * sz ≤ 16777216)
    (hk : AOps E r ops Q rest (a.put ((ops[i]?).bind (·.dst)) (.opt g (.tree sz es))) st) : AOps E r ops Q (i :: rest) a st := by
  rw [hi] at hk
  refine AOps.guard hi hg hd hy (fun e => ?_) (fun e => ?_)
  · subst e
    exact AOp.buildSliceF ho ht hz hzz (hc rfl) (hp rfl) hes hlen hpos hlim (AOps.putMono (fun κ cv h => VR_opt_true h) hk)
  · subst e
    exact AOps.putMono (fun κ cv h => VR_opt_false h) hk
end
end Go.Abs

/- THE ABSTRACT MEMORY (part 60): arguments that are told as others. -/
namespace Go.Abs
open Go.RowKit
theorem ACalls.argsLe {E : Env} {f : FuncId} {args args' : List AV} {st : St} {R : AEnd → St → Prop} (hl : LLe args args') (h : ACalls E f args' st R) : ACalls E f args st R := by
  intro κ w cargs hR hargs
  exact h κ w cargs hR (hl.ok hargs)
end Go.Abs
