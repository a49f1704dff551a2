/- THE ABSTRACT MEMORY (part 13): slices that grow. -/
import Derived.Test.YtphbhmocgihfeaaA12
namespace Go.Abs
open Go.RowKit
set_option linter.unusedSectionVars false
set_option linter.unusedVariables false
set_option linter.unusedSimpArgs false

/-- The elements of a slice. -/
def aElems (st : St) (x : AV) : Option (List (List AV)) :=
  match x with
  | .tree _ es => some es
  | .arr id g _ off len =>
    match st id with
    | some (.cells g' _ es) => if g = g' ∧ off + len ≤ es.length then some ((es.drop off).take len) else none
    | _ => none
  | _ => none
def aSz : AV → Option Nat
  | .tree sz _ => some sz
  | .arr _ _ sz _ _ => some sz
  | _ => none
def tby (P : Program) (t : TypeId) : Option Nat := (P.info? t).map (·.bytes)
def hasZero (P : Program) (t : TypeId) : Option Nat := ((P.info? t).bind (·.zero)).map fun z => z.cells.size

section
variable {E : Env} {κ : K} {st : St} {w : World} {a : AA} {act : Act} {r : Option Nat} {Q : APost} {Kn : ANext} {o : Oper}

theorem VRE_flat {rd : Nat → Option Value} {sz : Nat} : ∀ {es : List (List AV)} {o : Nat}, VRE κ rd sz es o → (∀ e ∈ es, e.length = sz) ∧ ∃ vs : List Value, vs.length = es.length * sz ∧ VRs κ es.flatten vs ∧ ∀ j v, vs[j]? = some v → rd (o + j) = some v
  | [], o, _ => ⟨by simp, [], by simp, by simp [VRs], by simp⟩
  | e :: es, o, h => by
    simp only [VRE] at h
    obtain ⟨h1, h2, h3⟩ := h
    obtain ⟨g1, vs, g2, g3, g4⟩ := VRE_flat h3
    obtain ⟨us, k1, k2, k3⟩ := VRF_read h2
    refine ⟨by intro x hx; cases hx with | head => exact h1 | tail _ hm => exact g1 x hm, us ++ vs, by simp [k1, g2, h1, Nat.add_mul]; omega, by simpa using VRs_append k2 g3, ?_⟩
    intro j v hv
    by_cases hj : j < us.length
    · rw [List.getElem?_append_left hj] at hv; exact k3 j v hv
    · rw [List.getElem?_append_right (by omega)] at hv
      have := g4 _ v hv
      rw [← this]; congr 1; omega

theorem VRs_split {as bs : List AV} : ∀ {vs : List Value}, VRs κ (as ++ bs) vs → ∃ us ws, vs = us ++ ws ∧ us.length = as.length ∧ VRs κ as us ∧ VRs κ bs ws := by
  induction as with
  | nil => intro vs h; exact ⟨[], vs, rfl, rfl, by simp [VRs], h⟩
  | cons a as ih =>
    intro vs h
    simp only [List.cons_append, VRs] at h
    obtain ⟨v, vs', rfl, h1, h2⟩ := h
    obtain ⟨us, ws, rfl, h3, h4, h5⟩ := ih h2
    exact ⟨v :: us, ws, rfl, by simp [h3], by simp only [VRs]; exact ⟨v, us, rfl, h1, h4⟩, h5⟩

theorem VRE_of_flat {rd : Nat → Option Value} {sz : Nat} : ∀ {es : List (List AV)} {vs : List Value} {o : Nat}, (∀ e ∈ es, e.length = sz) → VRs κ es.flatten vs → (∀ j v, vs[j]? = some v → rd (o + j) = some v) → VRE κ rd sz es o
  | [], vs, o, _, _, _ => by simp [VRE]
  | e :: es, vs, o, h1, h2, h3 => by
    simp only [List.flatten_cons] at h2
    obtain ⟨us, ws, rfl, g1, g2, g3⟩ := VRs_split h2
    have he := h1 e (by simp)
    simp only [VRE]
    refine ⟨he, VRs_VRF g2 (fun j v hv => h3 j v (by rw [List.getElem?_append_left (List.getElem?_eq_some_iff.1 hv).1]; exact hv)), VRE_of_flat (fun x hx => h1 x (by simp [hx])) g3 (fun j v hv => ?_)⟩
    have := h3 (us.length + j) v (by rw [List.getElem?_append_right (by omega)]; simpa using hv)
    rw [← this]; congr 1; omega

theorem elems_ok (hR : Rel E κ st w) {x : AV} {cx : Value} {xs : List (List AV)} {sz : Nat} (h : aElems st x = some xs) (hs : aSz x = some sz) (hx : VR κ x cx) :
    (∀ e ∈ xs, e.length = sz) ∧ ∃ ad c vs, cx = .slice (some ad) xs.length c ∧ vs.length = xs.length * sz ∧ VRs κ xs.flatten vs ∧ ∀ j u, vs[j]? = some u → w.cell? (ad.add j) = some u := by
  unfold aElems at h
  split at h <;> first | cases h | skip
  · rename_i sz' es
    simp only [aSz, Option.some.injEq] at hs
    subst hs
    simp only [VR] at hx
    obtain ⟨b, o, cap, rfl, _, hE⟩ := hx
    obtain ⟨h1, vs, h2, h3, h4⟩ := VRE_flat hE
    exact ⟨h1, _, _, vs, rfl, h2, h3, fun j u hu => by rw [addr_add]; exact hR.fzw _ _ _ (h4 j u hu)⟩
  · rename_i id g sz' off len
    simp only [aSz, Option.some.injEq] at hs
    subst hs
    split at h <;> first | cases h | skip
    rename_i g' sz'' es hst
    split at h <;> first | cases h | skip
    rename_i hc
    obtain ⟨rfl, hle⟩ := hc
    obtain ⟨L, hL, hB, _, _⟩ := hR.dom id _ hst
    obtain ⟨e1, e2, hl, hm, c, t, fr, hh, hsz, hfr, hE⟩ := hB
    simp only [VR] at hx
    obtain ⟨ad, cap, L', rfl, hlc, hL', hs', hg, ha⟩ := hx
    rw [hL] at hL'; cases hL'
    have hss : sz'' = sz' := by rw [← e2]; exact hs'
    subst hss
    have hlen : ((es.drop off).take len).length = len := by rw [List.length_take, List.length_drop]; omega
    have hE2 := VRE_take len (VRE_drop off hE (by omega))
    obtain ⟨h1, vs, h2, h3, h4⟩ := VRE_flat hE2
    refine ⟨h1, ad, cap, vs, by rw [hlen], h2, h3, fun j u hu => ?_⟩
    rcases ha e1 with ⟨q1, q2, q3⟩ | ⟨q1, q2⟩
    · rw [q1, addr_add, cell_of_cells hh]
      have := h4 j u hu
      simpa using this
    · subst q1
      have : vs.length = 0 := by rw [h2, hlen]; simp
      rw [List.eq_nil_of_length_eq_zero this] at hu
      simp at hu

theorem flat_all {xs : List (List AV)} {vs : List Value} (hone : ∀ e ∈ xs, ∀ c ∈ e, isCell c = true) (hv : VRs κ xs.flatten vs) : ∀ v ∈ vs, v.oneCell' = true := by
  intro v hv'
  obtain ⟨j, hj, rfl⟩ := List.getElem_of_mem hv'
  have hl := VRs_len hv
  obtain ⟨u, hu, hu2⟩ := VRs_get hv (i := j) (by omega)
  rw [List.getElem?_eq_getElem hj] at hu
  cases hu
  refine isCell_ok (κ := κ) ?_ hu2
  have hmem : xs.flatten.getD j .junk ∈ xs.flatten := by
    rw [List.getD, List.getElem?_eq_getElem (by omega)]; simp
  obtain ⟨e, he, hc⟩ := List.mem_flatten.1 hmem
  exact hone e he _ hc

theorem zero_info {P : Program} {t : TypeId} {z : Nat} (h : hasZero P t = some z) : ∃ i zv, P.info? t = some i ∧ i.zero = some zv ∧ zv.cells.size = z := by
  unfold hasZero at h
  cases hi : P.info? t with
  | none => simp [hi] at h
  | some i =>
    cases hz : i.zero with
    | none => simp [hi, hz] at h
    | some zv => simp [hi, hz] at h; exact ⟨i, zv, rfl, hz, h⟩

/-- 'append' onto a slice that the walk owns. -/
theorem AOp.append {t e : TypeId} {x y : Operand} {id g sz by_ n : Nat} {es xs : List (List AV)} (ho : o.op = .call { callee := .builtin .append, args := #[x, y], argTypes := #[t, t] })
    (hcs : evCs E a [x, y]) (ht : E.P.underlying t = some (.slice e)) (hz : tsz E.P e = some sz) (hzz : hasZero E.P e = some sz) (hb : tby E.P e = some by_) (hpos : 0 < sz)
    (hs : evU E a x = .arr id g sz 0 n) (hst : st id = some (.cells g sz es)) (hn : n = es.length) (hy : aElems st (evU E a y) = some xs) (hys : aSz (evU E a y) = some sz) (hone : ∀ e ∈ xs, ∀ c ∈ e, isCell c = true)
    (hlim : (es.length + xs.length) * by_ ≤ 140737488355328) (hlim2 : es.length + xs.length ≤ maxLen)
    (hk : Kn (a.put o.dst (.arr id (g + 1) sz 0 (es.length + xs.length))) (st.set id (.cells (g + 1) sz (es ++ xs)))) : AOp E r o Kn Q a st := by
  refine AOp.of_value (s := Sem.halt .blocked) (fun c => by rw [ho]; simp) fun κ w act hR hA => ?_
  subst hn
  have hvx := unO_ok (hA.ev hR x) hcs.1
  rw [show unO (a.ev E x) = evU E a x from rfl, hs] at hvx
  obtain ⟨hxl, ad, yc, news, hye, hnl, hnv, hnc⟩ := elems_ok hR hy hys (unO_ok (hA.ev hR y) hcs.2.1)
  obtain ⟨i, zv, hi, hizero, hzsz⟩ := zero_info hzz
  have hisz : i.size = sz := by simp [tsz, hi] at hz; exact hz
  have hiby : i.bytes = by_ := by simp [tby, hi] at hb; exact hb
  obtain ⟨L, hL, hB, hown, hlt⟩ := hR.dom id _ hst
  obtain ⟨e1, e2, hl, hm, c, ct, fr, hh, hsz, hfr, hE⟩ := hB
  obtain ⟨hel, olds, hol, hov, hoc⟩ := VRE_flat hE
  simp only [VR] at hvx
  obtain ⟨ax, cap, L', hxe, hlc, hL', hs', hg, ha⟩ := hvx
  rw [hL] at hL'; cases hL'
  have h1 := flat_all hone hnv
  have hexec : (execOp act.eval o).run E.P w = ((Builtin.append_ #[t, t] o.type #[.slice (some ax) es.length cap, .slice (some ad) xs.length yc]).run E.P w).andThen fun v w => .ok (.value v) w := by
    simp [execOp, ho, resolve, invoke, builtin, hxe, hye]
  have hall : ∀ e ∈ es ++ xs, e.length = sz := by
    intro e he; rcases List.mem_append.1 he with h | h
    · exact hel e h
    · exact hxl e h
  by_cases hroom : es.length + xs.length ≤ cap
  · -- there is room
    rcases ha e1 with ⟨q1, q2, q3⟩ | ⟨q1, q2⟩
    · simp only [Nat.zero_mul] at q1
      subst q1
      have hcapL : cap = L.cap := by omega
      have hb2 : es.length * sz + news.length ≤ L.cap * sz := by
        rw [hnl, ← Nat.add_mul]; exact Nat.mul_le_mul_right _ (by omega)
      have hrun := run_append_room_cells (P := E.P) w t o.type e i ht hi L.b 0 es.length cap ad xs.length yc news (by rw [hnl, hisz]) hnc h1 hroom
        (fun j hj => by rw [cell_of_cells hh, hisz, Nat.zero_add]; simp; omega) (fun j hj => by simp only [World.frozen?, hh]; exact hfr _ (by rw [hisz, Nat.zero_add]; omega))
      rw [hisz, Nat.zero_add] at hrun
      let L' : Loc := { L with gen := g + 1 }
      have hle : ∀ L0, κ.loc id = some L0 → L0.gen ≤ L'.gen ∧ (L'.gen = L0.gen → L' = L0) ∧ L'.sz = L0.sz := fun L0 h0 => by
        rw [hL] at h0; cases h0; exact ⟨by simp [L', e1], fun e => by simp [L', e1] at e, rfl⟩
      have hK : K.Le κ (κ.set id L') := K.le_set hle
      refine ⟨.slice (some ⟨L.b, 0, none⟩) (es.length + xs.length) cap, κ.set id L', _, _, w.setCells L.b (es.length * sz) news, by rw [hexec, hrun]; rfl, hK, ?_, ?_, hk⟩
      · refine hR.put hle (setCells_grownBy news w L.b _) ?_ (Nat.lt_of_lt_of_le hlt (setCells_grownBy news w L.b _).size) (.inl ⟨L, by simp [hst], hL, rfl⟩)
        refine ⟨rfl, e2, by simp only [List.length_append]; show _ ≤ L.cap; omega, hm, _, ct, fr, setCells_heap news hh, by rw [setArr_size]; exact hsz, hfr, ?_⟩
        refine VRE.mono hK sz _ _ _ (fun _ _ h => h) 0 ?_
        refine VRE_of_flat hall (vs := olds ++ news) (by simpa using VRs_append hov hnv) ?_
        intro j v hv
        simp only [Nat.zero_add]
        by_cases hj : j < olds.length
        · rw [List.getElem?_append_left hj] at hv
          rw [setArr_out _ _ _ _ (by omega)]
          simpa using hoc j v hv
        · rw [List.getElem?_append_right (by omega)] at hv
          have hj2 := (List.getElem?_eq_some_iff.1 hv).1
          rw [← hv, show j = es.length * sz + (j - olds.length) from by omega, setArr_in _ _ _ _ (by omega) (by omega)]
          congr 1; omega
      · simp only [VR, K.set_same, Option.some.injEq]
        exact ⟨_, _, _, rfl, ⟨rfl, by omega⟩, rfl, e2, Nat.le_refl _, fun _ => .inl ⟨by simp [L'], by simp [L', hcapL], by simp only [L']; omega⟩⟩
    · -- an empty slice without room: nothing is appended
      have hx0 : xs.length = 0 := by omega
      have hx1 : xs = [] := List.eq_nil_of_length_eq_zero hx0
      have hn0 : news = [] := List.eq_nil_of_length_eq_zero (by rw [hnl, hx0, Nat.zero_mul])
      subst hx1
      subst hn0
      have hrun : (Builtin.append_ #[t, t] o.type #[.slice (some ax) es.length cap, .slice (some ad) 0 yc]).run E.P w = .ok (.slice (some ax) es.length cap) w := by
        simp [Builtin.append_, run_underlying ht, sizeOf, typeInfo, hi, Builtin.lenOf, hlc.2, Builtin.firstCells, loadCells, loadCellsFrom, storeCells]
      let L' : Loc := { L with gen := g + 1 }
      have hle : ∀ L0, κ.loc id = some L0 → L0.gen ≤ L'.gen ∧ (L'.gen = L0.gen → L' = L0) ∧ L'.sz = L0.sz := fun L0 h0 => by
        rw [hL] at h0; cases h0; exact ⟨by simp [L', e1], fun e => by simp [L', e1] at e, rfl⟩
      have hK : K.Le κ (κ.set id L') := K.le_set hle
      refine ⟨.slice (some ax) es.length cap, κ.set id L', _, _, w, by rw [hexec]; exact (congrArg (fun x => Result.andThen x _) hrun).trans rfl, hK, ?_, ?_, hk⟩
      · refine hR.put hle ⟨rfl, rfl, rfl, Nat.le_refl _, fun _ _ _ => rfl⟩ ?_ hlt (.inl ⟨L, by simp [hst], hL, rfl⟩)
        exact ⟨rfl, e2, by simpa using hl, hm, c, ct, fr, hh, hsz, hfr, by simpa using VRE.mono hK sz _ _ _ (fun _ _ h => h) 0 hE⟩
      · simp only [VR, K.set_same, Option.some.injEq]
        exact ⟨_, _, _, rfl, ⟨hlc.1, by simpa using hlc.2⟩, rfl, e2, Nat.le_refl _, fun _ => .inr ⟨by simpa using q1, q2⟩⟩
  · -- a new array
    have hax : ∀ j u, olds[j]? = some u → w.cell? (ax.add j) = some u := by
      intro j u hu
      rcases ha e1 with ⟨q1, q2, q3⟩ | ⟨q1, q2⟩
      · rw [q1, addr_add, cell_of_cells hh]
        have := hoc j u hu
        simpa using this
      · have : olds.length = 0 := by rw [hol, q1, Nat.zero_mul]
        rw [List.eq_nil_of_length_eq_zero this] at hu
        simp at hu
    obtain ⟨v', w', hrun, hown', hgr⟩ := run_append_arg_grows (P := E.P) w t o.type e i zv sz by_ ht hi hizero hisz hiby hzsz hpos ax es.length cap olds hol hax ad xs.length yc news hnl hnc (by omega) hlim2 hlim
    have hpos2 : 0 < es.length + xs.length := by omega
    obtain ⟨hlen', hv'⟩ := hown'
    rcases hv' with ⟨_, h0⟩ | ⟨gb, cap', cur, rfl, hgb, hcur, hnc', hcm, hcs2, htake⟩
    · omega
    · have hgrow : w.grownBy w' (some gb) := ⟨hgr.os, hgr.tape, hgr.output, hgr.size, fun k hk _ => hgr.block k hk (by simp)⟩
      let L' : Loc := ⟨g + 1, gb, cap', sz⟩
      have hle : ∀ L0, κ.loc id = some L0 → L0.gen ≤ L'.gen ∧ (L'.gen = L0.gen → L' = L0) ∧ L'.sz = L0.sz := fun L0 h0 => by
        rw [hL] at h0; cases h0; exact ⟨by simp [L', e1], fun e => by simp [L', e1] at e, by simp [L', e2]⟩
      have hK : K.Le κ (κ.set id L') := K.le_set hle
      refine ⟨_, κ.set id L', _, _, w', by rw [hexec, hrun]; rfl, hK, ?_, ?_, hk⟩
      · refine hR.put hle hgrow ?_ (Array.getElem?_eq_some_iff.1 hcur).1 (.inr hgb)
        refine ⟨rfl, rfl, by simp only [List.length_append]; exact hnc', hcm, cur, e, (0, 0), hcur, by rw [hcs2]; exact Nat.le_refl _, fun o' _ => by simp, ?_⟩
        refine VRE.mono hK sz _ _ _ (fun _ _ h => h) 0 ?_
        refine VRE_of_flat hall (vs := olds ++ news) (by simpa using VRs_append hov hnv) ?_
        intro j v hv
        simp only [Nat.zero_add]
        rw [← htake, List.getElem?_take] at hv
        split at hv
        · simpa using hv
        · cases hv
      · simp only [VR, K.set_same, Option.some.injEq]
        exact ⟨_, _, _, rfl, ⟨rfl, hnc'⟩, rfl, rfl, Nat.le_refl _, fun _ => .inl ⟨by simp [L'], by simp [L'], by simpa [L'] using hnc'⟩⟩

/-- 'append' onto nil. -/
theorem AOp.append_nil {t e : TypeId} {x y : Operand} {sz by_ : Nat} {xs : List (List AV)} (ho : o.op = .call { callee := .builtin .append, args := #[x, y], argTypes := #[t, t] })
    (hcs : evCs E a [x, y]) (ht : E.P.underlying t = some (.slice e)) (hz : tsz E.P e = some sz) (hzz : hasZero E.P e = some sz) (hb : tby E.P e = some by_) (hpos : 0 < sz)
    (hs : evU E a x = .nils) (hy : aElems st (evU E a y) = some xs) (hys : aSz (evU E a y) = some sz) (hone : ∀ e ∈ xs, ∀ c ∈ e, isCell c = true)
    (hlim : xs.length * by_ ≤ 140737488355328) (hlim2 : xs.length ≤ maxLen)
    (h0 : xs = [] → Kn (a.put o.dst .nils) st)
    (h1 : xs ≠ [] → ∀ id, st id = none → Kn (a.put o.dst (.arr id 0 sz 0 xs.length)) (st.set id (.cells 0 sz xs))) : AOp E r o Kn Q a st := by
  refine AOp.of_value (s := Sem.halt .blocked) (fun c => by rw [ho]; simp) fun κ w act hR hA => ?_
  have hvx := unO_ok (hA.ev hR x) hcs.1
  rw [show unO (a.ev E x) = evU E a x from rfl, hs] at hvx
  simp only [VR] at hvx
  obtain ⟨hxl, ad, yc, news, hye, hnl, hnv, hnc⟩ := elems_ok hR hy hys (unO_ok (hA.ev hR y) hcs.2.1)
  obtain ⟨i, zv, hi, hizero, hzsz⟩ := zero_info hzz
  have hisz : i.size = sz := by simp [tsz, hi] at hz; exact hz
  have hiby : i.bytes = by_ := by simp [tby, hi] at hb; exact hb
  have hexec : (execOp act.eval o).run E.P w = ((Builtin.append_ #[t, t] o.type #[.slice none 0 0, .slice (some ad) xs.length yc]).run E.P w).andThen fun v w => .ok (.value v) w := by
    simp [execOp, ho, resolve, invoke, builtin, hvx, hye]
  have h1c := flat_all hone hnv
  have hown0 : w.ownsRow w.heap.size e sz (.slice none 0 0) 0 [] := World.ownsRow_nil w _ e sz
  obtain ⟨v', w', hrun, hown', hgr, hiff⟩ := run_append_own (P := E.P) w w.heap.size t o.type e i zv sz by_ ht hi hizero hisz hiby hzsz hpos _ 0 [] hown0 ad xs.length yc news hnl hnc h1c (by omega) (by simpa using hlim) (Nat.le_refl _)
  obtain ⟨hlen', hv'⟩ := hown'
  by_cases hx : xs = []
  · subst hx
    have : v' = .slice none 0 0 := hiff.2 ⟨rfl, rfl⟩
    subst this
    have hrun0 : (Builtin.append_ #[t, t] o.type #[.slice none 0 0, .slice (some ad) 0 yc]).run E.P w = .ok (.slice none 0 0) w := by
      simp [Builtin.append_, run_underlying ht, sizeOf, typeInfo, hi, Builtin.lenOf, Builtin.firstCells, loadCells, loadCellsFrom]
    exact ⟨.slice none 0 0, κ, .nils, st, w, by rw [hexec]; exact (congrArg (fun x => Result.andThen x _) hrun0).trans rfl, K.Le.refl κ, hR, by simp [VR], h0 rfl⟩
  · have hpos2 : 0 < xs.length := by cases xs with | nil => exact absurd rfl hx | cons _ _ => simp
    rcases hv' with ⟨_, h0'⟩ | ⟨gb, cap', cur, rfl, hgb, hcur, hnc', hcm, hcs2, htake⟩
    · omega
    · obtain ⟨id, hid1, hid2⟩ := hR.fresh
      have hgrow : w.grownBy w' (some gb) := ⟨hgr.os, hgr.tape, hgr.output, hgr.size, fun k hk _ => hgr.block k hk (by simp [Value.ownBlock])⟩
      let L' : Loc := ⟨0, gb, cap', sz⟩
      have hle : ∀ L0, κ.loc id = some L0 → L0.gen ≤ L'.gen ∧ (L'.gen = L0.gen → L' = L0) ∧ L'.sz = L0.sz := fun L0 h0 => by rw [hid1] at h0; cases h0
      have hK : K.Le κ (κ.set id L') := K.le_set hle
      refine ⟨_, κ.set id L', _, _, w', by rw [hexec, hrun]; rfl, hK, ?_, ?_, h1 hx id hid2⟩
      · refine hR.put hle hgrow ?_ (Array.getElem?_eq_some_iff.1 hcur).1 (.inr hgb)
        refine ⟨rfl, rfl, by simpa using hnc', hcm, cur, e, (0, 0), hcur, by rw [hcs2]; exact Nat.le_refl _, fun o' _ => by simp, ?_⟩
        refine VRE.mono hK sz _ _ _ (fun _ _ h => h) 0 ?_
        refine VRE_of_flat hxl (vs := news) hnv ?_
        intro j v hv
        simp only [Nat.zero_add]
        rw [List.nil_append] at htake
        rw [← htake, List.getElem?_take] at hv
        split at hv
        · simpa using hv
        · cases hv
      · simp only [VR, K.set_same, Option.some.injEq]
        exact ⟨_, _, _, by rw [Nat.zero_add], ⟨rfl, by simpa using hnc'⟩, rfl, rfl, Nat.le_refl _, fun _ => .inl ⟨by simp [L'], by simp [L'], by simpa [L'] using hnc'⟩⟩

end
end Go.Abs
