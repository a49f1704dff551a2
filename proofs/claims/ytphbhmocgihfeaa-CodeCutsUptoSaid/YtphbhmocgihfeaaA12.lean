/- THE ABSTRACT MEMORY (part 12): new blocks, stores. -/
import Derived.Test.YtphbhmocgihfeaaA11
import Derived.Lib.ConvBytes
import Derived.ArgAppend
namespace Go.Abs
open Go.RowKit
set_option linter.unusedSectionVars false
set_option linter.unusedVariables false
set_option linter.unusedSimpArgs false

/-- The cells of a value. -/
def aCells : AV → Option (List AV)
  | .agg cs => some cs
  | .junk => none
  | .opt _ _ => none
  | .tup _ => none
  | v => some [v]
def isCell : AV → Bool
  | .agg _ => false
  | .junk => false
  | .opt _ _ => false
  | .tup _ => false
  | _ => true
def splice (l : List AV) (f : Nat) (cs : List AV) : List AV := l.take f ++ cs ++ l.drop (f + cs.length)
/-- A type's zero, as cells. -/
def zeroC (P : Program) (t : TypeId) : Option (List AV) := ((P.info? t).bind (·.zero)).map fun z => z.cells.toList.map absS

section
variable {E : Env} {κ : K} {st : St} {w : World} {a : AA} {act : Act} {r : Option Nat} {Q : APost} {Kn : ANext} {o : Oper}

theorem aCells_ok {v : AV} {cv : Value} {cs : List AV} (h : aCells v = some cs) (hv : VR κ v cv) : VRs κ cs cv.cells.toList := by
  cases v <;> simp only [aCells, Option.some.injEq, reduceCtorEq] at h <;> subst h
  case agg cs => simp only [VR] at hv; obtain ⟨vs, rfl, hv⟩ := hv; exact hv
  all_goals
    have h2 := hv
    simp only [VR] at hv
    simp only [VRs]
    refine ⟨cv, [], ?_, h2, rfl⟩
    first
      | (subst hv; rfl)
      | (obtain ⟨_, _, rfl, _⟩ := hv; rfl)
      | (obtain ⟨_, _, _, rfl, _⟩ := hv; rfl)
      | (obtain ⟨_, rfl, _⟩ := hv; rfl)
      | (obtain ⟨_, _, _, rfl, _⟩ := hv; rfl)

theorem isCell_ok {v : AV} {cv : Value} (h : isCell v = true) (hv : VR κ v cv) : cv.oneCell' = true := by
  cases v <;> simp only [isCell, Bool.false_eq_true] at h
  all_goals
    simp only [VR] at hv
    first
      | (subst hv; rfl)
      | (obtain ⟨_, _, rfl, _⟩ := hv; rfl)
      | (obtain ⟨_, _, _, rfl, _⟩ := hv; rfl)
      | (obtain ⟨_, rfl, _⟩ := hv; rfl)
      | (obtain ⟨_, _, _, rfl, _⟩ := hv; rfl)

theorem VRF_iff {rd : Nat → Option Value} : ∀ {cs : List AV} {o : Nat}, VRF κ rd cs o ↔ ∀ j, j < cs.length → ∃ v, rd (o + j) = some v ∧ VR κ (cs.getD j .junk) v := by
  intro cs o
  refine ⟨fun h j hj => VRF_get h hj, ?_⟩
  induction cs generalizing o with
  | nil => intro _; simp [VRF]
  | cons c cs ih =>
    intro h
    simp only [VRF]
    refine ⟨by simpa using h 0 (by simp), ih fun j hj => ?_⟩
    obtain ⟨v, h1, h2⟩ := h (j + 1) (by simpa using hj)
    exact ⟨v, by rw [← h1]; congr 1; omega, by simpa using h2⟩
theorem VRE_iff {rd : Nat → Option Value} {sz : Nat} : ∀ {es : List (List AV)} {o : Nat}, VRE κ rd sz es o ↔ ∀ i, i < es.length → (es.getD i []).length = sz ∧ VRF κ rd (es.getD i []) (o + i * sz) := by
  intro es o
  refine ⟨fun h i hi => VRE_get h hi, ?_⟩
  induction es generalizing o with
  | nil => intro _; simp [VRE]
  | cons c cs ih =>
    intro h
    simp only [VRE]
    have h0 := h 0 (by simp)
    refine ⟨h0.1, by simpa using h0.2, ih fun j hj => ?_⟩
    obtain ⟨h1, h2⟩ := h (j + 1) (by simpa using hj)
    refine ⟨by simpa using h1, ?_⟩
    rw [show o + sz + j * sz = o + (j + 1) * sz from by rw [Nat.add_mul]; omega]
    simpa using h2

theorem VRs_VRF {cs : List AV} {vs : List Value} (h : VRs κ cs vs) {rd : Nat → Option Value} {o : Nat} (hr : ∀ j v, vs[j]? = some v → rd (o + j) = some v) : VRF κ rd cs o := by
  rw [VRF_iff]
  intro j hj
  obtain ⟨v, h1, h2⟩ := VRs_get h hj
  exact ⟨v, hr j v h1, h2⟩

/-- A new block of cells. -/
theorem Rel.newCells (hR : Rel E κ st w) {id : Nat} (hid : κ.loc id = none) {sz cap : Nat} {es : List (List AV)} {c : Array Value} {t : TypeId}
    (hl : es.length ≤ cap) (hm : cap ≤ maxLen) (hc : cap * sz ≤ c.size) (hE : VRE κ (fun o => c[o]?) sz es 0) :
    Rel E (κ.set id ⟨0, w.heap.size, cap, sz⟩) (st.set id (.cells 0 sz es)) (w.alloc (.cells c t)) ∧ K.Le κ (κ.set id ⟨0, w.heap.size, cap, sz⟩) := by
  have hle : K.Le κ (κ.set id ⟨0, w.heap.size, cap, sz⟩) := K.le_set fun L0 h0 => by rw [hid] at h0; cases h0
  refine hR.alloc hid ⟨rfl, rfl, hl, hm, c, t, (0, 0), heap_alloc_new w _, hc, ?_, VRE.mono hle sz es _ _ (fun _ _ h => h) 0 hE⟩
  intro o _; simp

theorem VR_newptr {κ : K} {id b cap sz : Nat} : VR (κ.set id ⟨0, b, cap, sz⟩) (.ptr id 0 0 0) (.pointer (some ⟨b, 0, none⟩)) := by
  simp only [VR, K.set_same, Option.some.injEq]
  exact ⟨_, _, rfl, rfl, Nat.le_refl _, fun _ => by simp⟩

theorem AOp.of_value {s : Sem Value} (hd : ∀ c, o.op ≠ .defer c)
    (h : ∀ κ w act, Rel E κ st w → AR κ a act → ∃ cv κ' v st' w', (execOp act.eval o).run E.P w = .ok (.value cv) w' ∧ K.Le κ κ' ∧ Rel E κ' st' w' ∧ VR κ' v cv ∧ Kn (a.put o.dst v) st') : AOp E r o Kn Q a st := by
  intro κ w act rd hR hA hr
  obtain ⟨cv, κ', v, st', w', hrun, hle, hR', hv, hk⟩ := h κ w act hR hA
  refine ⟨fun _ _ => trivial, ?_⟩
  rw [semAt_of hd, hrun]
  exact ⟨κ', _, st', hle, hR', (hA.mono hle).put o.dst hv, hk⟩

theorem absSs_ok' (κ : K) (vs : Array Value) : VRs κ (vs.toList.map absS) vs.toList := absSs_ok κ _

theorem AOp.alloc {t : TypeId} {cs : List AV} (ho : o.op = .alloc t) (hz : zeroC E.P t = some cs) (h : ∀ id, st id = none → Kn (a.put o.dst (.ptr id 0 0 0)) (st.set id (.cells 0 cs.length [cs]))) : AOp E r o Kn Q a st := by
  refine AOp.of_value (s := Sem.halt .blocked) (fun c => by rw [ho]; simp) fun κ w act hR hA => ?_
  obtain ⟨id, h1, h2⟩ := hR.fresh
  unfold zeroC at hz
  cases hi : E.P.info? t with
  | none => simp [hi] at hz
  | some i =>
    rw [hi] at hz
    cases hzz : i.zero with
    | none => simp [hzz] at hz
    | some z =>
      simp only [hzz, Option.bind_some, Option.map_some, Option.some.injEq] at hz
      subst hz
      have hcs := absSs_ok' κ z.cells
      obtain ⟨hR', hle⟩ := hR.newCells h1 (sz := (z.cells.toList.map absS).length) (cap := 1) (es := [z.cells.toList.map absS]) (c := z.cells) (t := t) (by simp) (by decide) (by simp)
        (by simp only [VRE, and_true, true_and]; exact VRs_VRF hcs (fun j v hv => by simpa using hv))
      refine ⟨.pointer (some ⟨w.heap.size, 0, none⟩), _, .ptr id 0 0 0, _, _, ?_, hle, hR', VR_newptr, h id h2⟩
      simp [execOp, ho, Instr.alloc, zeroValue, typeInfo, hi, hzz, newVar, newRow]

theorem AOp.box {t : TypeId} {x : Operand} {cs : List AV} (ho : o.op = .box t x) (hcs : evC E a x) (hx : aCells (evU E a x) = some cs) (h : ∀ id, st id = none → Kn (a.put o.dst (.ptr id 0 0 0)) (st.set id (.cells 0 cs.length [cs]))) : AOp E r o Kn Q a st := by
  refine AOp.of_value (s := Sem.halt .blocked) (fun c => by rw [ho]; simp) fun κ w act hR hA => ?_
  obtain ⟨id, h1, h2⟩ := hR.fresh
  have hv := aCells_ok hx (unO_ok (hA.ev hR x) hcs)
  have hl := VRs_len hv
  simp only [Array.length_toList] at hl
  obtain ⟨hR', hle⟩ := hR.newCells h1 (sz := cs.length) (cap := 1) (es := [cs]) (c := (act.eval x).cells) (t := t) (by simp) (by decide) (by simp [hl])
    (by simp only [VRE, and_true, true_and]; exact VRs_VRF hv (fun j v hv => by simpa using hv))
  refine ⟨.pointer (some ⟨w.heap.size, 0, none⟩), _, .ptr id 0 0 0, _, _, ?_, hle, hR', VR_newptr, h id h2⟩
  simp [execOp, ho, Instr.box, newVar, newRow]

theorem AOp.load {t : TypeId} {x : Operand} {c : Prop} {v : AV} (ho : o.op = .load t x) (hcs : evC E a x) (hx : aLoad E.P st t (evU E a x) = some (c, v)) (hc : c) (h : Kn (a.put o.dst v) st) : AOp E r o Kn Q a st := by
  refine AOp.of_value (s := Sem.halt .blocked) (fun c => by rw [ho]; simp) fun κ w act hR hA => ?_
  obtain ⟨cv, hr, hv⟩ := aLoad_ok hR hx hc (unO_ok (hA.ev hR x) hcs)
  exact ⟨cv, κ, v, st, w, by simp [execOp, ho, hr], K.Le.refl κ, hR, hv, h⟩

theorem AOp.loadCell {t : TypeId} {x : Operand} {id g sz i f : Nat} {es : List (List AV)} (ho : o.op = .load t x) (hx : evU E a x = .ptr id g i f) (hcs : evC E a x) (hst : st id = some (.cells g sz es)) (hag : aggT E.P t = some false) (hi : i < es.length) (hf : f < sz)
    (h : Kn (a.put o.dst ((es.getD i []).getD f .junk)) st) : AOp E r o Kn Q a st :=
  AOp.load (c := g = g ∧ i < es.length ∧ f < sz) ho hcs (by simp only [hx, aLoad, hst, hag]) ⟨rfl, hi, hf⟩ h

def setArr (c : Array Value) : Nat → List Value → Array Value
  | _, [] => c
  | o, v :: r => setArr (c.setIfInBounds o v) (o + 1) r
theorem setArr_size : ∀ (vs : List Value) (c : Array Value) (o : Nat), (setArr c o vs).size = c.size
  | [], c, o => rfl
  | v :: r, c, o => by simp [setArr, setArr_size r]
theorem setArr_out : ∀ (vs : List Value) (c : Array Value) (o j : Nat), (j < o ∨ o + vs.length ≤ j) → (setArr c o vs)[j]? = c[j]?
  | [], c, o, j, _ => rfl
  | v :: r, c, o, j, h => by
    simp only [List.length_cons] at h
    simp only [setArr]
    rw [setArr_out r _ _ _ (by omega), Array.getElem?_setIfInBounds_ne (by omega)]
theorem setArr_in : ∀ (vs : List Value) (c : Array Value) (o j : Nat), o + vs.length ≤ c.size → j < vs.length → (setArr c o vs)[o + j]? = vs[j]?
  | v :: r, c, o, 0, h, _ => by
    simp only [List.length_cons] at h
    simp only [setArr]
    rw [setArr_out r _ _ _ (by omega)]
    simp only [Nat.add_zero, List.getElem?_cons_zero]
    rw [Array.getElem?_setIfInBounds_self_of_lt (by omega)]
  | v :: r, c, o, j + 1, h, hj => by
    simp only [List.length_cons] at h hj
    simp only [setArr]
    rw [show o + (j + 1) = o + 1 + j from by omega, setArr_in r _ _ _ (by simp; omega) (by omega)]
    simp

theorem setCells_heap : ∀ (vs : List Value) {w : World} {b o : Nat} {c : Array Value} {t : TypeId} {fr : Nat × Nat}, w.heap[b]? = some (.cells c t fr) → (w.setCells b o vs).heap[b]? = some (.cells (setArr c o vs) t fr)
  | [], _, _, _, _, _, _, h => h
  | v :: r, w, b, o, c, t, fr, h => by
    refine setCells_heap r (w := w.setCell ⟨b, o, none⟩ v) ?_
    simp [World.setCell, Array.getElem?_modify, h]
theorem setCells_grownBy : ∀ (vs : List Value) (w : World) (b o : Nat), w.grownBy (w.setCells b o vs) (some b)
  | [], w, b, o => ⟨rfl, rfl, rfl, Nat.le_refl _, fun _ _ _ => rfl⟩
  | v :: r, w, b, o => by
    have h := setCells_grownBy r (w.setCell ⟨b, o, none⟩ v) b (o + 1)
    have hs : (w.setCell ⟨b, o, none⟩ v).heap.size = w.heap.size := by simp [World.setCell]
    exact ⟨h.os, h.tape, h.output, by rw [← hs]; exact h.size, fun k hk hne => by
      rw [World.setCells, h.block k (by rw [hs]; exact hk) hne]
      simp only [ne_eq, Option.some.injEq] at hne
      exact Below.heap_setCell _ _ _ _ hne⟩

theorem splice_len {l cs : List AV} {f : Nat} (h : f + cs.length ≤ l.length) : (splice l f cs).length = l.length := by
  simp only [splice, List.length_append, List.length_take, List.length_drop]; omega
theorem splice_lo {l cs : List AV} {f j : Nat} (h : f + cs.length ≤ l.length) (hj : j < f) : (splice l f cs).getD j .junk = l.getD j .junk := by
  simp only [splice, List.getD, List.append_assoc]
  rw [List.getElem?_append_left (by rw [List.length_take]; omega), List.getElem?_take_of_lt hj]
theorem splice_mid {l cs : List AV} {f j : Nat} (h : f + cs.length ≤ l.length) (h1 : f ≤ j) (h2 : j < f + cs.length) : (splice l f cs).getD j .junk = cs.getD (j - f) .junk := by
  simp only [splice, List.getD, List.append_assoc]
  rw [List.getElem?_append_right (by rw [List.length_take]; omega), List.length_take, Nat.min_eq_left (by omega), List.getElem?_append_left (by omega)]
theorem splice_hi {l cs : List AV} {f j : Nat} (h : f + cs.length ≤ l.length) (h1 : f + cs.length ≤ j) : (splice l f cs).getD j .junk = l.getD j .junk := by
  simp only [splice, List.getD, List.append_assoc]
  rw [List.getElem?_append_right (by rw [List.length_take]; omega), List.length_take, Nat.min_eq_left (by omega), List.getElem?_append_right (by omega), List.getElem?_drop]
  congr 2; omega

/-- Cells of one element of a block are written. -/
theorem Rel.write (hR : Rel E κ st w) {id g sz i f : Nat} {es : List (List AV)} (hst : st id = some (.cells g sz es)) {cs : List AV} {vs : List Value} (hv : VRs κ cs vs) (hi : i < es.length) (hf : f + cs.length ≤ sz) :
    ∃ L, κ.loc id = some L ∧ L.gen = g ∧ L.sz = sz ∧ Rel E (κ.set id L) (st.set id (.cells g sz (es.set i (splice (es.getD i []) f cs)))) (w.setCells L.b (i * sz + f) vs) ∧ K.Le κ (κ.set id L) ∧
      (∀ j, j < vs.length → (w.cell? ⟨L.b, i * sz + f + j, none⟩).isSome = true) ∧ (∀ j, j < vs.length → w.frozen? ⟨L.b, i * sz + f + j, none⟩ = false) := by
  obtain ⟨L, hL, hB, hown, hlt⟩ := hR.dom id _ hst
  obtain ⟨e1, e2, hl, hm, c, t, fr, hh, hsz, hfr, hE⟩ := hB
  have hvl := VRs_len hv
  have hbound : i * sz + sz ≤ L.cap * sz := by
    have : (i + 1) * sz ≤ L.cap * sz := Nat.mul_le_mul_right _ (by omega)
    rw [Nat.add_mul] at this; omega
  have hle : ∀ L0, κ.loc id = some L0 → L0.gen ≤ L.gen ∧ (L.gen = L0.gen → L = L0) ∧ L.sz = L0.sz := fun L0 h0 => by rw [hL] at h0; cases h0; exact ⟨Nat.le_refl _, fun _ => rfl, rfl⟩
  have hK : K.Le κ (κ.set id L) := K.le_set hle
  have hnew : VRE κ (fun o => (setArr c (i * sz + f) vs)[o]?) sz (es.set i (splice (es.getD i []) f cs)) 0 := by
    rw [VRE_iff] at hE ⊢
    intro i' hi'
    simp only [List.length_set] at hi'
    obtain ⟨q1, q2⟩ := hE i' hi'
    simp only [Nat.zero_add] at q2 ⊢
    by_cases e : i' = i
    · subst e
      have hgd : (es.set i' (splice (es.getD i' []) f cs)).getD i' [] = splice (es.getD i' []) f cs := by simp [List.getD, List.getElem?_set_self hi]
      rw [hgd]
      generalize es.getD i' [] = l at q1 q2 ⊢
      have hfl : f + cs.length ≤ l.length := by omega
      have hlen := splice_len hfl
      refine ⟨hlen.trans q1, ?_⟩
      rw [VRF_iff] at q2 ⊢
      intro j hj
      rw [hlen] at hj
      by_cases hj1 : j < f
      · obtain ⟨v, h1, h2⟩ := q2 j hj
        exact ⟨v, by rw [← h1]; exact setArr_out _ _ _ _ (by omega), by rw [splice_lo hfl hj1]; exact h2⟩
      · by_cases hj2 : j < f + cs.length
        · obtain ⟨v, h1, h2⟩ := VRs_get hv (i := j - f) (by omega)
          refine ⟨v, ?_, by rw [splice_mid hfl (by omega) hj2]; exact h2⟩
          rw [← h1, show i' * sz + j = i' * sz + f + (j - f) from by omega]
          exact setArr_in _ _ _ _ (by omega) (by omega)
        · obtain ⟨v, h1, h2⟩ := q2 j hj
          exact ⟨v, by rw [← h1]; exact setArr_out _ _ _ _ (by omega), by rw [splice_hi hfl (by omega)]; exact h2⟩
    · have hgd : (es.set i (splice (es.getD i []) f cs)).getD i' [] = es.getD i' [] := by simp [List.getD, List.getElem?_set_ne (Ne.symm e)]
      rw [hgd]
      refine ⟨q1, ?_⟩
      rw [VRF_iff] at q2 ⊢
      intro j hj
      obtain ⟨v, h1, h2⟩ := q2 j hj
      refine ⟨v, by
        rw [← h1]
        refine setArr_out _ _ _ _ ?_
        rw [q1] at hj
        rcases Nat.lt_or_ge i' i with hlt' | hge
        · have : (i' + 1) * sz ≤ i * sz := Nat.mul_le_mul_right _ hlt'
          rw [Nat.add_mul] at this; omega
        · have : (i + 1) * sz ≤ i' * sz := Nat.mul_le_mul_right _ (by omega)
          rw [Nat.add_mul] at this; omega, h2⟩
  refine ⟨L, hL, e1, e2, hR.put hle (setCells_grownBy vs w L.b _) ?_ ?_ (.inl ⟨L, by simp [hst], hL, rfl⟩), hK, fun j hj => ?_, fun j hj => ?_⟩
  · exact ⟨e1, e2, by simpa using hl, hm, _, t, fr, setCells_heap vs hh, by rw [setArr_size]; exact hsz, hfr, VRE.mono hK sz _ _ _ (fun _ _ h => h) 0 hnew⟩
  · exact Nat.lt_of_lt_of_le hlt (setCells_grownBy vs w L.b _).size
  · rw [cell_of_cells hh]
    have : i * sz + f + j < c.size := by omega
    simp [this]
  · simp only [World.frozen?, hh]
    exact hfr _ (by omega)

theorem AOp.store {t : TypeId} {x y : Operand} {id g sz i f : Nat} {es : List (List AV)} {cs : List AV} (ho : o.op = .store t x y) (hx : evU E a x = .ptr id g i f) (hcs : evCs E a [x, y]) (hst : st id = some (.cells g sz es))
    (hv : aCells (evU E a y) = some cs) (hone : cs.all isCell = true) (hn : tsz E.P t = some cs.length) (hi : i < es.length) (hf : f + cs.length ≤ sz)
    (hk : Kn (a.put o.dst (.tup [])) (st.set id (.cells g sz (es.set i (splice (es.getD i []) f cs))))) : AOp E r o Kn Q a st := by
  intro κ w act rd hR hA hr
  have hvx := unO_ok (hA.ev hR x) hcs.1
  rw [show unO (a.ev E x) = evU E a x from rfl, hx] at hvx
  have hvy := aCells_ok hv (unO_ok (hA.ev hR y) hcs.2.1)
  obtain ⟨L, hL, e1, e2, hR', hK, hc, hfr⟩ := hR.write hst hvy hi hf
  simp only [VR] at hvx
  obtain ⟨ad, L', hxe, hL', hg, ha⟩ := hvx
  rw [hL] at hL'; cases hL'
  have hae := ha e1
  rw [e2] at hae
  have h1 : ∀ v ∈ (act.eval y).cells.toList, v.oneCell' = true := by
    intro v hv'
    obtain ⟨j, hj, rfl⟩ := List.getElem_of_mem hv'
    have hl := VRs_len hvy
    obtain ⟨u, hu, hu2⟩ := VRs_get hvy (i := j) (by omega)
    rw [List.getElem?_eq_getElem hj] at hu
    cases hu
    refine isCell_ok (κ := κ) ?_ hu2
    have hmem : cs.getD j .junk ∈ cs := by
      rw [List.getD, List.getElem?_eq_getElem (by omega)]; simp
    exact (List.all_eq_true.1 hone) _ hmem
  have hst' := run_storeCells_cells (P := E.P) L.b (i * sz + f) (act.eval y).cells.toList 0 w (by simpa using hc) (by simpa using hfr) h1
  simp only [Nat.add_zero] at hst'
  have hlen : (act.eval y).cells.size = cs.length := by have := VRs_len hvy; simpa using this
  refine ⟨fun _ _ => trivial, ?_⟩
  rw [semAt_of (fun c => by rw [ho]; simp)]
  have hrun : (execOp act.eval o).run E.P w = .ok .skip (w.setCells L.b (i * sz + f) (act.eval y).cells.toList) := by
    simp [execOp, ho, Instr.storeAt, Instr.sureAddr, hxe, storeVar, run_sz hn, hlen, hae, hst']
  rw [hrun]
  exact ⟨_, _, _, hK, hR', (hA.mono hK).put o.dst (by simp only [VR, undef]; exact ⟨#[], rfl, by simp [VRs]⟩), hk⟩

end
end Go.Abs
