/- THE ABSTRACT MEMORY (part 22): contracts of the kit (Calls, of the world itself) as contracts here. -/
import Derived.Test.YtbknconfeiojcaaGreatDoorM1
import Derived.RangeFuncRecord
import Derived.Orders
import Derived.Lib.Builder
import Derived.Laws.Externs
import Derived.Lib.UnsafeStr
set_option linter.unusedSimpArgs false
set_option linter.unusedVariables false
set_option linter.unusedSectionVars false
set_option maxRecDepth 10000
set_option maxHeartbeats 1000000
/- THE ABSTRACT MEMORY (part 14): what is forgotten is frozen; a slice of parts; texts and bytes. -/
namespace Go.Abs
open Go.RowKit
def th (st st' : St) : Nat → AV → AV
  | 0, v => v
  | n + 1, v =>
    match v with
    | .arr id g sz off len =>
      match st id, st' id with
      | some (.cells _ g' sz' es), none => if g = g' ∧ sz = sz' ∧ off + len ≤ es.length then .tree sz (((es.map fun e => e.map (th st st' n)).drop off).take len) else .arr id g sz off len
      | _, _ => .arr id g sz off len
    | .agg cs => .agg (cs.map (th st st' n))
    | .tup cs => .tup (cs.map (th st st' n))
    | .iface t x => .iface t (th st st' n x)
    | v => v
def thE (st st' : St) (n : Nat) : AEnd → AEnd
  | .ret v => .ret (th st st' n v)
  | .panic v => .panic (th st st' n v)
def St.sub (st' st : St) : Prop := ∀ id b, st' id = some b → st id = some b
theorem St.sub_refl (st : St) : st.sub st := fun _ _ h => h
theorem St.sub_set {st st' : St} (h : st.sub st') {id : Nat} (hid : st id = none) (b : Blk) : st.sub (st'.set id b) := by
  intro i c hc
  have hne : i ≠ id := fun e => by subst e; rw [hid] at hc; cases hc
  rw [St.set_ne _ _ hne]; exact h i c hc
section
variable {E : Env} {κ : K} {st st' : St} {w : World} {a : AA} {act : Act} {r : Option Nat} {Q : APost} {Kn : ANext} {o : Oper}
open Classical in
noncomputable def K.freeze (κ : K) (st st' : St) (w : World) : K :=
  { κ with fz := fun b o => if ∃ id L, (st id).isSome ∧ st' id = none ∧ κ.loc id = some L ∧ L.b = b then w.cell? ⟨b, o, none⟩ else κ.fz b o }
theorem K.le_freeze (hR : Rel E κ st w) (st' : St) : K.Le κ (κ.freeze st st' w) := by
  refine ⟨fun id L h => ⟨L, h, Nat.le_refl _, fun _ => rfl, rfl⟩, fun b o v hv => ?_, rfl, rfl⟩
  simp only [K.freeze]
  split
  · exact hR.fzw b o v hv
  · exact hv
theorem Rel.freeze (hR : Rel E κ st w) (hs : st'.sub st) : Rel E (κ.freeze st st' w) st' w := by
  have hK := K.le_freeze hR st'
  have hss : ∀ id, (st' id).isSome → (st id).isSome := fun id hi => by
    obtain ⟨B, hB⟩ := Option.isSome_iff_exists.1 hi
    rw [hs id B hB]; rfl
  refine ⟨fun id B hB => ?_, fun i j Li Lj hi hj h1 h2 h3 => hR.inj i j Li Lj (hss i hi) (hss j hj) h1 h2 h3, fun b o v hv => ?_, fun id L o hi hL => ?_, hR.bnd, hR.bel, hR.n0, fun g => VR.mono hK _ _ (hR.glob g), hR.wf⟩
  · obtain ⟨L, h1, h2, h3, h4⟩ := hR.dom id B (hs id B hB)
    exact ⟨L, h1, h2.keep hK rfl, h3, h4⟩
  · simp only [K.freeze] at hv
    split at hv
    · exact hv
    · exact hR.fzw b o v hv
  · simp only [K.freeze]
    split
    · rename_i h
      obtain ⟨id', L', h1, h2, h3, h4⟩ := h
      have := hR.inj id id' L L' (hss id hi) h1 hL h3 h4.symm
      subst this
      rw [h2] at hi; simp at hi
    · exact hR.sep id L o (hss id hi) hL
theorem VRs_map {κ κ' : K} {f : AV → AV} (h : ∀ v cv, VR κ v cv → VR κ' (f v) cv) : ∀ {vs : List AV} {cvs : List Value}, VRs κ vs cvs → VRs κ' (vs.map f) cvs
  | [], _, hv => by simp only [VRs] at hv; subst hv; simp [VRs]
  | v :: vs, _, hv => by
    simp only [VRs] at hv
    obtain ⟨c, cs, rfl, h1, h2⟩ := hv
    simp only [List.map_cons, VRs]
    exact ⟨c, cs, rfl, h _ _ h1, VRs_map h h2⟩
theorem VRF_map {κ κ' : K} {f : AV → AV} (h : ∀ v cv, VR κ v cv → VR κ' (f v) cv) {rd rd' : Nat → Option Value} (hr : ∀ o v, rd o = some v → rd' o = some v) : ∀ {vs : List AV} {o : Nat}, VRF κ rd vs o → VRF κ' rd' (vs.map f) o
  | [], _, _ => by simp [VRF]
  | v :: vs, o, hv => by
    simp only [VRF] at hv
    obtain ⟨⟨c, h1, h2⟩, h3⟩ := hv
    simp only [List.map_cons, VRF]
    exact ⟨⟨c, hr _ _ h1, h _ _ h2⟩, VRF_map h hr h3⟩
theorem VRE_map {κ κ' : K} {f : AV → AV} (h : ∀ v cv, VR κ v cv → VR κ' (f v) cv) {rd rd' : Nat → Option Value} (hr : ∀ o v, rd o = some v → rd' o = some v) {sz : Nat} : ∀ {vs : List (List AV)} {o : Nat}, VRE κ rd sz vs o → VRE κ' rd' sz (vs.map fun e => e.map f) o
  | [], _, _ => by simp [VRE]
  | v :: vs, o, hv => by
    simp only [VRE] at hv
    obtain ⟨h1, h2, h3⟩ := hv
    simp only [List.map_cons, VRE]
    exact ⟨by simpa using h1, VRF_map h hr h2, VRE_map h hr h3⟩
theorem th_ok (hR : Rel E κ st w) (hs : st'.sub st) : ∀ (n : Nat) (v : AV) (cv : Value), VR κ v cv → VR (κ.freeze st st' w) (th st st' n v) cv
  | 0, v, cv, hv => VR.mono (K.le_freeze hR st') _ _ hv
  | n + 1, v, cv, hv => by
    have ih := th_ok hR hs n
    have hK := K.le_freeze hR st'
    have hm := VR.mono hK v cv hv
    cases v <;> simp only [th] <;> first | exact hm | skip
    case arr id g sz off len =>
      split
      · rename_i t' g' sz' es h1 h2
        split
        · rename_i hc
          obtain ⟨rfl, rfl, hle⟩ := hc
          obtain ⟨L, hL, hB, _, _⟩ := hR.dom id _ h1
          obtain ⟨e1, e2, hl, hm', c, fr, hh, hsz, hfr, hE⟩ := hB
          simp only [VR] at hv
          obtain ⟨ad, cap, L', rfl, hlc, hL', hs', hg, ha⟩ := hv
          rw [hL] at hL'; cases hL'
          have hlen : (((es.map fun e => e.map (th st st' n)).drop off).take len).length = len := by
            rw [List.length_take, List.length_drop, List.length_map]; omega
          have hfz : ∀ o, (κ.freeze st st' w).fz L.b o = c[o]? := by
            intro o
            simp only [K.freeze]
            rw [if_pos ⟨id, L, by simp [h1], h2, hL, rfl⟩]
            exact cell_of_cells hh o
          have hE2 := VRE_map (κ' := κ.freeze st st' w) (f := th st st' n) ih (rd' := (κ.freeze st st' w).fz L.b) (fun o v hv => by rw [hfz]; exact hv) hE
          have hE3 := VRE_take len (VRE_drop off hE2 (by rw [List.length_map]; omega))
          simp only [VR]
          rcases ha e1 with ⟨q1, q2, q3⟩ | ⟨q1, q2⟩
          · exact .inr ⟨⟨L.b, off * sz, none⟩, cap, by rw [hlen, q1], by rw [hlen]; exact hlc.2, .inr rfl, by simpa using hE3⟩
          · refine .inr ⟨ad, cap, by rw [hlen], by rw [hlen]; exact hlc.2, .inr hlc.1, ?_⟩
            · have h0 : (((es.map fun e => e.map (th st st' n)).drop off).take len) = [] := List.eq_nil_of_length_eq_zero (by rw [hlen]; exact q1)
              rw [h0]; simp [VRE]
        · exact hm
      · exact hm
    case agg cs => simp only [VR] at hv ⊢; obtain ⟨vs, rfl, hv⟩ := hv; exact ⟨vs, rfl, VRs_map ih hv⟩
    case tup cs => simp only [VR] at hv ⊢; obtain ⟨vs, rfl, hv⟩ := hv; exact ⟨vs, rfl, VRs_map ih hv⟩
    case iface t x => simp only [VR] at hv ⊢; obtain ⟨y, rfl, hv⟩ := hv; exact ⟨y, rfl, ih _ _ hv⟩
theorem ACalls.thaw {f : FuncId} {args : List AV} {R R' : AEnd → St → Prop} (h : ACalls E f args st R') (hr : ∀ x st1, R' x st1 → ∃ n st2, St.sub st2 st1 ∧ R (thE st1 st2 n x) st2) : ACalls E f args st R := by
  intro κ w cargs hR hargs
  refine CallsIn.mono (h κ w cargs hR hargs) ?_
  rintro e w' ⟨κ', x, st1, hle, hR', he, hq⟩
  obtain ⟨n, st2, hs, hq2⟩ := hr x st1 hq
  refine ⟨κ'.freeze st1 st2 w', _, st2, hle.trans (K.le_freeze hR' st2), hR'.freeze hs, ?_, hq2⟩
  cases x with
  | ret v => obtain ⟨cv, rfl, hv⟩ := he; exact ⟨cv, rfl, th_ok hR' hs n v cv hv⟩
  | panic v => obtain ⟨cv, rfl, hv⟩ := he; exact ⟨cv, rfl, th_ok hR' hs n v cv hv⟩
end
end Go.Abs

/- THE ABSTRACT MEMORY (part 15): a slice of parts; texts and bytes; structs from parts. -/
namespace Go.Abs
open Go.RowKit
def bytesE (s : List UInt8) : List (List AV) := s.map fun b => [.int .u8 (b.toNat : Int)]
@[simp] theorem bytesE_length (s : List UInt8) : (bytesE s).length = s.length := by simp [bytesE]
def aParts (E : Env) (a : AA) : Nat → List (Nat × Operand) → Option (List (List AV))
  | _, [] => some []
  | k, (i, x) :: rest =>
    if i = k then
      match aCells (evU E a x), aParts E a (k + 1) rest with
      | some c, some cs => some (c :: cs)
      | _, _ => none
    else none
def partsC (E : Env) (a : AA) : List (Nat × Operand) → Prop
  | [] => True
  | (_, x) :: rest => evC E a x ∧ partsC E a rest
section
variable {E : Env} {κ : K} {st : St} {w : World} {a : AA} {act : Act} {r : Option Nat} {Q : APost} {Kn : ANext} {o : Oper}
def PRs (κ : K) (sz : Nat) : Nat → List (Nat × Value) → List (List AV) → Prop
  | _, [], es => es = []
  | k, (i, v) :: ps, es => i = k ∧ ∃ e es', es = e :: es' ∧ e.length = sz ∧ VRs κ e v.cells.toList ∧ PRs κ sz (k + 1) ps es'
theorem fill_ok {sz N : Nat} : ∀ (ps : List (Nat × Value)) (es done : List (List AV)) (cells : Array Value), PRs κ sz done.length ps es → cells.size = N * sz → done.length + es.length ≤ N → VRE κ (fun o => cells[o]?) sz done 0 →
    ∃ cells', Instr.fill (fun i => some (i * sz, sz)) cells ps = some cells' ∧ cells'.size = N * sz ∧ VRE κ (fun o => cells'[o]?) sz (done ++ es) 0
  | [], es, done, cells, h, hs, hn, hE => by simp only [PRs] at h; subst h; exact ⟨cells, rfl, hs, by simpa using hE⟩
  | (i, v) :: ps, es, done, cells, h, hs, hn, hE => by
    simp only [PRs] at h
    obtain ⟨rfl, e, es', rfl, h1, h2, h3⟩ := h
    have hl := VRs_len h2
    simp only [Array.length_toList] at hl
    have hb : done.length * sz + sz ≤ N * sz := by
      have : (done.length + 1) * sz ≤ N * sz := Nat.mul_le_mul_right _ (by simp only [List.length_cons] at hn; omega)
      rw [Nat.add_mul] at this; omega
    have hfill : Instr.fill (fun i => some (i * sz, sz)) cells ((done.length, v) :: ps) = Instr.fill (fun i => some (i * sz, sz)) (setArr cells (done.length * sz) v.cells.toList) ps := by
      have hz := zipIdx_setArr (done.length * sz) v.cells.toList 0 cells
      simp only [Nat.add_zero] at hz
      simp only [Instr.fill]
      rw [if_neg (by simp; omega)]
      congr 1
      rw [← hz, ← Array.foldl_toList, Array.toList_zipIdx]
    rw [hfill]
    have := fill_ok ps es' (done ++ [e]) (setArr cells (done.length * sz) v.cells.toList) (by simpa using h3) (by rw [setArr_size]; exact hs) (by simp only [List.length_cons, List.length_append, List.length_nil] at hn ⊢; omega) (by
      rw [VRE_iff] at hE ⊢
      intro i hi
      simp only [List.length_append, List.length_cons, List.length_nil] at hi
      simp only [Nat.zero_add]
      by_cases hi2 : i < done.length
      · obtain ⟨q1, q2⟩ := hE i hi2
        have : (done ++ [e]).getD i [] = done.getD i [] := by simp [List.getD, List.getElem?_append_left hi2]
        rw [this]
        refine ⟨q1, ?_⟩
        rw [VRF_iff] at q2 ⊢
        intro j hj
        obtain ⟨u, g1, g2⟩ := q2 j hj
        refine ⟨u, ?_, g2⟩
        simp only [Nat.zero_add] at g1
        rw [← g1]
        refine setArr_out _ _ _ _ (.inl ?_)
        have : (i + 1) * sz ≤ done.length * sz := Nat.mul_le_mul_right _ hi2
        rw [Nat.add_mul] at this; omega
      · have hie : i = done.length := by omega
        subst hie
        have : (done ++ [e]).getD done.length [] = e := by simp [List.getD]
        rw [this]
        exact ⟨h1, VRs_VRF h2 fun j u hu => by
          have hj := (List.getElem?_eq_some_iff.1 hu).1
          rw [← hu]
          exact setArr_in _ _ _ _ (by simp; omega) hj⟩)
    simpa using this
theorem parts_ok (hR : Rel E κ st w) (hA : AR κ a act) {sz : Nat} : ∀ (ps : List (Nat × Operand)) (k : Nat) {es : List (List AV)}, aParts E a k ps = some es → partsC E a ps → (∀ e ∈ es, e.length = sz) →
    PRs κ sz k (ps.map fun (i, x) => (i, act.eval x)) es ∧ es.length = ps.length
  | [], k, es, h, _, _ => by simp only [aParts, Option.some.injEq] at h; subst h; exact ⟨rfl, rfl⟩
  | (i, x) :: ps, k, es, h, hc, hsz => by
    simp only [aParts] at h
    split at h <;> first | cases h | skip
    rename_i hik
    split at h <;> first | cases h | skip
    rename_i c cs h1 h2
    obtain ⟨hc1, hc2⟩ := hc
    obtain ⟨q1, q2⟩ := parts_ok hR hA ps (k + 1) h2 hc2 (fun e he => hsz e (by simp [he]))
    refine ⟨?_, by simp [q2]⟩
    simp only [List.map_cons, PRs]
    exact ⟨hik, c, cs, rfl, hsz c (by simp), aCells_ok h1 (unO_ok (hA.ev hR x) hc1), q1⟩
theorem AOp.buildSlice {t e : TypeId} {len sz : Nat} {parts : Array (Nat × Operand)} {es : List (List AV)} (ho : o.op = .buildSlice t len parts) (ht : E.P.underlying t = some (.slice e)) (hz : tsz E.P e = some sz) (hzz : hasZero E.P e = some sz)
    (hc : partsC E a parts.toList) (hp : aParts E a 0 parts.toList = some es) (hes : ∀ e ∈ es, e.length = sz) (hlen : es.length = len) (hpos : 0 < sz) (hlim : len * sz ≤ 16777216)
    (h : ∀ id, st id = none → Kn (a.put o.dst (.arr id 0 sz 0 len)) (st.set id (.cells e 0 sz es))) : AOp E r o Kn Q a st := by
  refine AOp.of_value (s := Sem.halt .blocked) (fun c => by rw [ho]; simp) fun κ w act hR hA => ?_
  obtain ⟨id, hid1, hid2⟩ := hR.fresh
  obtain ⟨i, zv, hi, hizero, hzsz⟩ := zero_info hzz
  have hisz : i.size = sz := by simp [tsz, hi] at hz; exact hz
  obtain ⟨q1, q2⟩ := parts_ok hR hA parts.toList 0 hp hc hes
  let zero : Array Value := if len * sz = 0 then #[] else zv.cells
  obtain ⟨cells', hf1, hf2, hf3⟩ := fill_ok (κ := κ) (N := len) (sz := sz) (parts.toList.map fun (i, x) => (i, act.eval x)) es [] ((Array.range (len * sz)).map (fun j => zero[j % zero.size]!)) (by simpa using q1) (by simp) (by simpa using Nat.le_of_eq hlen) (by simp [VRE])
  have hmax : len ≤ maxLen := by
    have : len * 1 ≤ len * sz := Nat.mul_le_mul_left _ (by omega)
    simp only [maxLen]; omega
  have hrun : (execOp act.eval o).run E.P w = .ok (.value (.slice (some ⟨w.heap.size, 0, none⟩) len len)) (w.alloc (.cells cells' e)) := by
    have hlim' : ¬ (16777216 < len * sz) := by omega
    have hf1' : Instr.fill (fun i => some (i * sz, sz)) ((Array.range (len * sz)).map (fun j => zero[j % zero.size]!)) (parts.map fun (i, x) => (i, act.eval x)).toList = some cells' := by simpa using hf1
    have h24 : ¬ (len * sz > 2 ^ 24) := by omega
    have hpm : (parts.map fun x => (x.1, act.eval x.2)).toList = parts.toList.map fun (i, x) => (i, act.eval x) := by simp
    by_cases h0 : len * sz = 0
    · have hz0 : zero = #[] := by simp only [zero, if_pos h0]
      rw [hz0] at hf1
      simp only [execOp, ho, Instr.buildSlice, Sem.run_bind, run_underlying ht, run_sz hz, Result.andThen, if_neg h24, if_pos h0, Sem.run_pure, hpm, hf1, newRow, newObj, Sem.run]
      rfl
    · have hz0 : zero = zv.cells := by simp only [zero, if_neg h0]
      rw [hz0] at hf1
      simp only [execOp, ho, Instr.buildSlice, Sem.run_bind, run_underlying ht, run_sz hz, Result.andThen, if_neg h24, if_neg h0, zeroValue, typeInfo, run_program, hi, hizero, Sem.run_pure, hpm, hf1, newRow, newObj, Sem.run]
      rfl
  · obtain ⟨hR', hle⟩ := hR.newCells hid1 (sz := sz) (cap := len) (es := es) (c := cells') (t := e) (by omega) hmax (by rw [hf2]) (by simpa using hf3)
    refine ⟨_, _, .arr id 0 sz 0 len, _, _, hrun, hle, hR', ?_, h id hid2⟩
    simp only [VR, K.set_same, Option.some.injEq]
    exact ⟨_, _, _, rfl, ⟨rfl, Nat.le_refl _⟩, rfl, rfl, Nat.le_refl _, fun _ => .inl ⟨by simp, by simp, by simp⟩⟩
theorem bytes_VRE (κ : K) (e : TypeId) (s : List UInt8) (w : World) : VRE κ (fun o => (Lib.bytesCells w e ⟨s.toArray⟩)[o]?) 1 (bytesE s) 0 := by
  rw [VRE_iff]
  intro i hi
  rw [bytesE_length] at hi
  have hg : (bytesE s).getD i [] = [.int .u8 ((s.getD i 0).toNat : Int)] := by
    simp [bytesE, List.getD, List.getElem?_eq_getElem hi]
  rw [hg]
  refine ⟨rfl, ?_⟩
  simp only [VRF, and_true, VR]
  refine ⟨_, ?_, rfl⟩
  simp [Lib.bytesCells, Array.getElem?_append, List.getD, hi]
theorem AOp.toBytes {src dst e : TypeId} {x : Operand} {u : TypeDesc} {s : List UInt8} (ho : o.op = .convert src dst x) (hcs : evC E a x) (hu : E.P.underlying src = some u) (hd : E.P.underlying dst = some (.slice e)) (he : E.P.underlying e = some (.int .u8))
    (hx : evU E a x = .str s) (hlim : s.length ≤ maxLen) (h : ∀ id, st id = none → Kn (a.put o.dst (.arr id 0 1 0 s.length)) (st.set id (.cells e 0 1 (bytesE s)))) : AOp E r o Kn Q a st := by
  refine AOp.of_value (s := Sem.halt .blocked) (fun c => by rw [ho]; simp) fun κ w act hR hA => ?_
  obtain ⟨id, hid1, hid2⟩ := hR.fresh
  have hv := unO_ok (hA.ev hR x) hcs
  rw [show unO (a.ev E x) = evU E a x from rfl, hx] at hv
  simp only [VR] at hv
  have hrun := Lib.run_convert_string_bytes (P := E.P) w src dst e ⟨s.toArray⟩ hu hd he
  have hsz : (⟨s.toArray⟩ : ByteArray).size = s.length := by simp [ByteArray.size]
  have hge := grownCap_ge w s.length 0 e
  have hcm : grownCap w s.length 0 e ≤ maxLen := grownCap_le_maxLen w _ 0 e hlim
  have hcells : (Lib.bytesCells w e ⟨s.toArray⟩).size = grownCap w s.length 0 e := by
    simp [Lib.bytesCells, hsz]; omega
  let L' : Loc := ⟨0, w.heap.size, grownCap w s.length 0 e, 1⟩
  have hle : ∀ L0, κ.loc id = some L0 → L0.gen ≤ L'.gen ∧ (L'.gen = L0.gen → L' = L0) ∧ L'.sz = L0.sz := fun L0 h0 => by rw [hid1] at h0; cases h0
  have hK : K.Le κ (κ.set id L') := K.le_set hle
  have hgr : w.grownBy (Lib.bytesWorld w e ⟨s.toArray⟩) (some w.heap.size) :=
    ⟨rfl, rfl, rfl, by rw [Lib.bytesWorld_size]; omega, fun k hk _ => Lib.bytesWorld_at_old w e _ k hk⟩
  have hR' : Rel E (κ.set id L') (st.set id (.cells e 0 1 (bytesE s))) (Lib.bytesWorld w e ⟨s.toArray⟩) := by
    refine hR.put hle hgr ?_ (by rw [Lib.bytesWorld_size]; simp [L']) (.inr (Nat.le_refl _))
    refine ⟨rfl, rfl, by simp [L', hge], hcm, _, _, Lib.bytesWorld_at_new w e _, by rw [hcells]; simp [L'], ?_, bytes_VRE _ e s w⟩
    intro o' ho'
    rw [hcells]
    simp only [L', Nat.mul_one] at ho'
    simp; omega
  refine ⟨_, _, .arr id 0 1 0 s.length, _, _, by simp [execOp, ho, hv, hrun]; rfl, hK, hR', ?_, h id hid2⟩
  simp only [VR, K.set_same, Option.some.injEq]
  exact ⟨_, _, _, by rw [hsz], ⟨rfl, hge⟩, rfl, rfl, Nat.le_refl _, fun _ => .inl ⟨by simp [L'], by simp [L'], by simpa [L'] using hge⟩⟩
theorem VRs_bytes : ∀ {s : List UInt8} {vs : List Value}, VRs κ (bytesE s).flatten vs → vs = (s.map fun b => ((b.toNat : Nat) : Int)).map (Value.int .u8)
  | [], vs, h => by simpa [bytesE, VRs] using h
  | b :: s, vs, h => by
    simp only [bytesE, List.map_cons, List.flatten_cons, List.cons_append, List.nil_append, VRs, VR] at h
    obtain ⟨v, vs', rfl, rfl, h2⟩ := h
    simp only [List.map_cons]
    rw [← VRs_bytes h2]
theorem foldl_push (s : List UInt8) : ∀ acc : ByteArray, (s.map fun b => ((b.toNat : Nat) : Int)).foldl (fun r n => r.push (UInt8.ofNat n.toNat)) acc = acc ++ ⟨s.toArray⟩ := by
  induction s with
  | nil =>
    intro acc
    have : ∀ x y : ByteArray, x.data.toList = y.data.toList → x = y := fun x y e => by cases x; cases y; simp at e; simp [e]
    apply this
    rw [Joins.data_append]
    simp
  | cons b s ih =>
    intro acc
    simp only [List.map_cons, List.foldl_cons, ih]
    have : ∀ x y : ByteArray, x.data.toList = y.data.toList → x = y := fun x y e => by cases x; cases y; simp at e; simp [e]
    apply this
    rw [Joins.data_append, Joins.data_append]
    simp [ByteArray.push]
theorem AOp.toStr {src dst e : TypeId} {x : Operand} {s : List UInt8} (ho : o.op = .convert src dst x) (hcs : evC E a x) (hs : E.P.underlying src = some (.slice e)) (hd : E.P.underlying dst = some .string) (he : E.P.underlying e = some (.int .u8))
    (hx : (evU E a x = .nils ∧ s = []) ∨ (aElems st (evU E a x) = some (bytesE s) ∧ aSz (evU E a x) = some 1)) (h : Kn (a.put o.dst (.str s)) st) : AOp E r o Kn Q a st := by
  refine AOp.of_value (s := Sem.halt .blocked) (fun c => by rw [ho]; simp) fun κ w act hR hA => ?_
  have hv := unO_ok (hA.ev hR x) hcs
  rw [show unO (a.ev E x) = evU E a x from rfl] at hv
  rcases hx with ⟨hx, rfl⟩ | ⟨hx, hx2⟩
  · rw [hx] at hv
    simp only [VR] at hv
    refine ⟨.string ⟨#[]⟩, κ, .str [], st, w, ?_, K.Le.refl κ, hR, by simp [VR], h⟩
    simp [execOp, ho, hv, run_convert_bytes_string w src dst e none 0 0 hs he hd, Conv.bytesToString]
    rfl
  · by_cases hnil : act.eval x = .slice none 0 0
    · have hs0 : s = [] := by
        rw [hnil] at hv
        unfold aElems at hx
        split at hx <;> first | cases hx | skip
        · rename_i sz es heq
          rw [heq] at hv; simp only [VR] at hv
          rcases hv with ⟨h0, _⟩ | ⟨a', cap, h0, _⟩
          · cases s <;> simp_all [bytesE]
          · cases h0
        · rename_i id g z off n heq
          rw [heq] at hv; simp only [VR] at hv
          obtain ⟨a', cap, L, h0, _⟩ := hv
          cases h0
      subst hs0
      refine ⟨.string ⟨#[]⟩, κ, .str [], st, w, ?_, K.Le.refl κ, hR, by simp [VR], h⟩
      simp [execOp, ho, hnil, run_convert_bytes_string w src dst e none 0 0 hs he hd, Conv.bytesToString]
      rfl
    obtain ⟨_, ad, c, vs, hye, hnl, hnv, hnc⟩ : _ ∧ ∃ ad c vs, act.eval x = .slice (some ad) (bytesE s).length c ∧ vs.length = (bytesE s).length * 1 ∧ VRs κ (bytesE s).flatten vs ∧ ∀ j u, vs[j]? = some u → w.cell? (ad.add j) = some u := by
      by_cases he0 : bytesE s = []
      · rw [he0]
        refine ⟨trivial, ?_⟩
        unfold aElems at hx
        split at hx <;> first | cases hx | skip
        · rename_i sz es heq
          rw [heq] at hv; simp only [VR] at hv
          rcases hv with ⟨_, h0⟩ | ⟨a', cap, h0, _⟩
          · exact absurd h0 hnil
          · exact ⟨a', cap, [], by rw [h0, he0], rfl, by simp [VRs], by simp⟩
        · rename_i id g z off n heq
          have := elems_ok hR (x := .arr id g z off n) (cx := act.eval x) (xs := bytesE s) (by rw [← heq]; rw [heq]; unfold aElems; exact hx) (by rw [← heq]; exact hx2) (.inr ⟨_, _, _, _, _, rfl⟩) (by rw [← heq]; exact hv)
          rw [he0] at this
          exact this.2
      · exact ⟨trivial, (elems_ok hR hx hx2 (.inl he0) hv).2⟩
    have hvs := VRs_bytes hnv
    have hload := run_loadCells_list (P := E.P) w ad vs hnc
    rw [hnl, Nat.mul_one] at hload
    refine ⟨.string ⟨s.toArray⟩, κ, .str s, st, w, ?_, K.Le.refl κ, hR, by simp [VR], h⟩
    have hb := run_bytesToString (P := E.P) w ad (bytesE s).length c (s.map fun b => ((b.toNat : Nat) : Int)) (by rw [hload, hvs])
    rw [foldl_push] at hb
    simp [execOp, ho, hye, run_convert_bytes_string w src dst e _ _ _ hs he hd]
    rw [show s.length = (bytesE s).length from by simp, hb]
    have : ∀ x y : ByteArray, x.data.toList = y.data.toList → x = y := fun x y e => by cases x; cases y; simp at e; simp [e]
    have h0 : ByteArray.empty ++ (⟨s.toArray⟩ : ByteArray) = ⟨s.toArray⟩ := by
      apply this; rw [Joins.data_append]; simp
    rw [h0]
    rfl
end
end Go.Abs

/- THE ABSTRACT MEMORY (part 16): a range over a function; its rounds. -/
namespace Go.Abs
open Go.RowKit
def St.del (st : St) (id : Nat) : St := fun i => if i = id then none else st i
theorem St.del_ne (st : St) {id i : Nat} (h : i ≠ id) : st.del id i = st i := by simp [St.del, h]
theorem St.del_sub (st : St) (id : Nat) : (st.del id).sub st := fun i b h => by
  simp only [St.del] at h
  split at h
  · cases h
  · exact h
theorem St.del_set (st : St) {id : Nat} (b : Blk) (h : st id = none) : (st.set id b).del id = st := by
  funext i
  simp only [St.del, St.set]
  split
  · rename_i e; subst e; exact h.symm
  · rfl
section
variable {E : Env} {κ : K} {st : St} {w : World} {a : AA} {act : Act} {r : Option Nat} {Q : APost} {Kn : ANext} {o : Oper}
theorem Rel.setObj (hR : Rel E κ st w) {id : Nat} {B0 B : Blk} {L : Loc} (hst : st id = some B0) (hL : κ.loc id = some L) (o : Obj)
    (hB : ∀ κ', K.Le κ κ' → κ'.loc = κ.loc → BR κ' { w with heap := w.heap.setIfInBounds L.b o } L B) : Rel E (κ.set id L) (st.set id B) { w with heap := w.heap.setIfInBounds L.b o } ∧ K.Le κ (κ.set id L) := by
  obtain ⟨L', hL', _, ho, hlt⟩ := hR.dom id B0 hst
  rw [hL] at hL'; cases hL'
  have hgr : w.grownBy { w with heap := w.heap.setIfInBounds L.b o } (some L.b) :=
    ⟨rfl, rfl, rfl, by simp, fun k hk hne => by
      simp only [ne_eq, Option.some.injEq] at hne
      simp [Array.getElem?_setIfInBounds, Ne.symm hne]⟩
  have hle : ∀ L0, κ.loc id = some L0 → L0.gen ≤ L.gen ∧ (L.gen = L0.gen → L = L0) ∧ L.sz = L0.sz := fun L0 h0 => by rw [hL] at h0; cases h0; exact ⟨Nat.le_refl _, fun _ => rfl, rfl⟩
  have hK : K.Le κ (κ.set id L) := K.le_set hle
  refine ⟨hR.put hle hgr (hB _ hK ?_) (by simpa using hlt) (.inl ⟨L, by simp [hst], hL, rfl⟩), hK⟩
  funext i
  simp only [K.set]
  split
  · rename_i e; subst e; exact hL.symm
  · rfl
theorem RdR.round {l : Nat} {L : Loc} (hL : κ.loc l = some L) : RdR κ (some l) (some L.b) := ⟨L, L.b, hL, rfl, fun _ => rfl⟩
def ARound (l : Nat) (Kn : AV → St → Prop) : APost := fun x a st =>
  match st l with
  | some (.loop _ _ fn tm ps assign body d) =>
    match x with
    | .normal => Kn (.bool true) (st.set l (.loop .ready none fn tm ps assign body d))
    | .ret => Kn (.bool false) (st.set l (.loop .done (some .ret) fn tm ps assign body d))
    | .exit id => Kn (.bool false) (st.set l (.loop .done (some (.exit id)) fn tm ps assign body d))
    | .goto t => Kn (.bool false) (st.set l (.loop .done (some (.goto t)) fn tm ps assign body d))
    | .panic _ => False
  | _ => False
def bindTm : List AV → List Nat → List AV → List AV
  | tm, [], _ => tm
  | tm, _, [] => tm
  | tm, p :: ps, v :: vs => bindTm (tm.set p v) ps vs
theorem bindTm_ok : ∀ (ps : List Nat) (vs : List AV) (cvs : List Value) (tm : List AV) (tmps : Array Value), VRs κ vs cvs → VRs κ tm tmps.toList →
    VRs κ (bindTm tm ps vs) ((ps.zip cvs).foldl (fun tmps (t, a) => tmps.setIfInBounds t a) tmps).toList
  | [], vs, cvs, tm, tmps, _, h => by cases vs <;> simpa [bindTm] using h
  | p :: ps, [], cvs, tm, tmps, hv, h => by simp only [VRs] at hv; subst hv; simpa [bindTm] using h
  | p :: ps, v :: vs, cvs, tm, tmps, hv, h => by
    simp only [VRs] at hv
    obtain ⟨c, cs, rfl, h1, h2⟩ := hv
    simp only [bindTm, List.zip_cons_cons, List.foldl_cons]
    exact bindTm_ok ps vs cs _ _ h2 (by simpa using VRs_set h p h1)
theorem BR_loop {L : Loc} {s : LoopState} {pend : Option Code} {fn : FuncId} {tm : List AV} {ps : Array Tmp} {assign body : Code} {d : Nat} (hB : BR κ w L (.loop s pend fn tm ps assign body d)) :
    L.gen = 0 ∧ ∃ (tmps : Array Value) (b : Nat), VRs κ tm tmps.toList ∧ (Instr.getLoop L.b).run E.P w = .ok { state := s, pending := pend, fn, tmps, params := ps, assign, body, defers := b } w ∧
      w.heap[L.b]? = some (.loop { state := s, pending := pend, fn, tmps, params := ps, assign, body, defers := b }) ∧
      ∀ κ' w' s' pend', K.Le κ κ' → κ'.loc = κ.loc → w'.heap[L.b]? = some (.loop { state := s', pending := pend', fn, tmps, params := ps, assign, body, defers := b }) → BR κ' w' L (.loop s' pend' fn tm ps assign body d) := by
  obtain ⟨h1, tmps, D, b, h2, h3, h4, h5⟩ := hB
  refine ⟨h1, tmps, b, h2, ?_, h5, fun κ' w' s' pend' hle hloc hh => ⟨h1, tmps, D, b, VRs.mono hle _ _ h2, by rw [hloc]; exact h3, h4, hh⟩⟩
  simp [Instr.getLoop, getObj, Sem.run, h5]
theorem run_setObj' {P : Program} {b : Nat} {o o' : Obj} (h : w.heap[b]? = some o) (hc : ∀ c t fr, o ≠ .cells c t fr) : (setObj b o').run P w = .ok () { w with heap := w.heap.setIfInBounds b o' } := by
  cases o <;> first | exact (hc _ _ _ rfl).elim | simp [setObj, Sem.run, h]
theorem AOp.yield {x : Operand} {args : Array Operand} {tys : Array TypeId} {l : Nat} {s : LoopState} {pend : Option Code} {fn : FuncId} {tm : List AV} {ps : Array Tmp} {assign body : Code} {d : Nat}
    (ho : o.op = .call { callee := .value x, args := args, argTypes := tys }) (hx : evU E a x = .yld l) (hcs : evCs E a (x :: args.toList)) (hl : st l = some (.loop s pend fn tm ps assign body d)) (hps : args.size = ps.size)
    (h : AW E (some l) assign (AThen (fun a1 st1 => ∃ pend fn tm ps assign' body' d, st1 l = some (.loop .ready pend fn tm ps assign' body' d) ∧
        AW E (some l) body (ARound l fun v st' => Kn (a.put o.dst v) st') a1 (st1.set l (.loop .busy pend fn tm ps assign' body' d))) (fun _ _ _ => False))
      { tm := bindTm tm ps.toList (args.toList.map (evU E a)), ds := [] } st) : AOp E r o Kn Q a st := by
  intro κ w act rd hR hA hr
  refine ⟨fun _ _ => trivial, ?_⟩
  rw [semAt_of (fun c => by rw [ho]; simp)]
  have hv := unO_ok (hA.ev hR x) hcs.1
  rw [show unO (a.ev E x) = evU E a x from rfl, hx] at hv
  simp only [VR] at hv
  obtain ⟨L, b, hL, hxe, hbe⟩ := hv
  obtain ⟨L', hL', hB, _, _⟩ := hR.dom l _ hl
  rw [hL] at hL'; cases hL'
  obtain ⟨hg0, tmps, db, htm, hget, hheap, _⟩ := BR_loop (E := E) hB
  have hb := hbe hg0
  subst hb
  have hargs := evsC_ok hR hA args.toList hcs.2
  have hrun : (execOp act.eval o).run E.P w = .ok (.round L.b fn ((ps.zip (args.map act.eval)).foldl (fun tmps (t, a) => tmps.setIfInBounds t a) tmps) assign body) w := by
    simp [execOp, ho, resolve, hxe, Deferred.ofValue, invoke, Instr.yield, hget, hps]
  rw [hrun]
  refine ⟨fun h => by simp [Fence.wide] at h, ?_⟩
  refine roundIn_of_wpIn (F := Fr rd) trivial ?_
  have hA0 : AR κ { tm := bindTm tm ps.toList (args.toList.map (evU E a)), ds := [] } { tmps := (ps.zip (args.map act.eval)).foldl (fun tmps (t, a) => tmps.setIfInBounds t a) tmps, defers := [] } :=
    ⟨by
      have := bindTm_ok (κ := κ) ps.toList (args.toList.map (evU E a)) (args.toList.map act.eval) tm tmps hargs htm
      show VRs κ _ _
      rw [← Array.foldl_toList, Array.toList_zip]
      simpa using this, rfl⟩
  refine wpIn_mono (h κ w _ (some L.b) hR hA0 (RdR.round hL)) ?_
  rintro e act1 w1 ⟨κ1, x1, a1, st1, hle1, hR1, hA1, hx1, hq⟩
  cases x1 with
  | exit id => exact hq.elim
  | goto l => exact hq.elim
  | ret => exact hq.elim
  | panic v => exact hq.elim
  | normal =>
    simp only [XR] at hx1; subst hx1
    obtain ⟨pend1, fn1, tm1, ps1, assign1, body1, d1, hl1, hbody⟩ := hq
    obtain ⟨L1, hL1, hB1, _, _⟩ := hR1.dom l _ hl1
    obtain ⟨Lx, hLx, _, hgen, _⟩ := hle1.loc l L hL
    rw [hL1] at hLx; cases hLx
    obtain ⟨hg1, tmps1, db1, htm1, hget1, hheap1, hmk1⟩ := BR_loop (E := E) hB1
    have hLL : L1 = L := hgen (by omega)
    subst hLL
    obtain ⟨hR2, hK2⟩ := hR1.setObj hl1 hL1 (.loop { state := .busy, pending := pend1, fn := fn1, tmps := tmps1, params := ps1, assign := assign1, body := body1, defers := db1 })
      (B := .loop .busy pend1 fn1 tm1 ps1 assign1 body1 d1) (fun κ' hle hloc => hmk1 κ' _ _ _ hle hloc (by
        have := (Array.getElem?_eq_some_iff.1 hheap1).1
        simp [Array.getElem?_setIfInBounds, this]))
    refine ⟨{ w1 with heap := w1.heap.setIfInBounds L1.b (.loop { state := .busy, pending := pend1, fn := fn1, tmps := tmps1, params := ps1, assign := assign1, body := body1, defers := db1 }) }, ?_, ?_⟩
    · simp [Instr.beginRound, hget1, run_setObj' hheap1 (by simp)]
    · refine wpIn_mono (hbody _ _ act1 (some L1.b) hR2 (hA1.mono hK2) ((RdR.round hL1).mono hK2)) ?_
      rintro e2 act2 w2 ⟨κ2, x2, a2, st2, hle2, hR3, hA2, hx2, hq2⟩
      simp only [ARound] at hq2
      have hle02 := hle1.trans (hK2.trans hle2)
      split at hq2
      · rename_i s3 pend3 fn3 tm3 ps3 assign3 body3 d3 hl3
        obtain ⟨L3, hL3, hB3, _, _⟩ := hR3.dom l _ hl3
        obtain ⟨Ly, hLy, _, hgen3, _⟩ := hle02.loc l L1 hL
        rw [hL3] at hLy; cases hLy
        obtain ⟨hg3, tmps3, db3, htm3, hget3, hheap3, hmk3⟩ := BR_loop (E := E) hB3
        have hLL3 : L3 = L1 := hgen3 (by omega)
        subst hLL3
        have fin : ∀ (jump : Option Code) (v : AV) (cv : Value), VR κ2 v cv → cv = .bool jump.isNone → Kn (a.put o.dst v) (st2.set l (.loop (if jump.isNone then .ready else .done) jump fn3 tm3 ps3 assign3 body3 d3)) →
            ∃ v w', (Instr.endRound L3.b jump).run E.P w2 = .ok v w' ∧ (match (Ending.returned v), w' with | .returned v, w'' => upK E κ Kn (act.put o.dst v) w'' | .panicked chain, w'' => upX E κ Q (.panic chain) act w'' | .outgrown, _ => LetsOut (upX E κ Q)) := by
          intro jump v cv hv hcv hk
          obtain ⟨hR4, hK4⟩ := hR3.setObj hl3 hL3 (.loop { state := if jump.isNone then .ready else .done, pending := jump, fn := fn3, tmps := tmps3, params := ps3, assign := assign3, body := body3, defers := db3 })
            (B := .loop (if jump.isNone then .ready else .done) jump fn3 tm3 ps3 assign3 body3 d3) (fun κ' hle hloc => hmk3 κ' _ _ _ hle hloc (by
              have := (Array.getElem?_eq_some_iff.1 hheap3).1
              simp [Array.getElem?_setIfInBounds, this]))
          refine ⟨cv, _, by simp only [Instr.endRound, Sem.run_bind, hget3, Result.andThen, run_setObj' hheap3 (fun _ _ _ h => by cases h), hcv]; rfl, ?_⟩
          exact ⟨_, _, _, hle02.trans hK4, hR4, (hA.mono (hle02.trans hK4)).put o.dst (VR.mono hK4 _ _ hv), hk⟩
        cases x2 with
        | normal => simp only [XR] at hx2; subst hx2; exact fin none (.bool true) (.bool true) (by simp [VR]) rfl hq2
        | ret => simp only [XR] at hx2; subst hx2; exact fin (some .ret) (.bool false) (.bool false) (by simp [VR]) rfl hq2
        | exit id => simp only [XR] at hx2; subst hx2; exact fin (some (.exit id)) (.bool false) (.bool false) (by simp [VR]) rfl hq2
        | goto t => simp only [XR] at hx2; subst hx2; exact fin (some (.goto t)) (.bool false) (.bool false) (by simp [VR]) rfl hq2
        | panic v => exact hq2.elim
      · exact hq2.elim
end
end Go.Abs

/- THE ABSTRACT MEMORY (part 17): the statement 'for .. := range f'. -/
namespace Go.Abs
open Go.RowKit
section
variable {E : Env} {κ : K} {st : St} {w : World} {a : AA} {act : Act} {r : Option Nat} {Q : APost} {Kn : ANext} {o : Oper}
def ARange (E : Env) (r : Option Nat) (l : Nat) (Q : APost) (a : AA) (x : AEnd) (st' : St) : Prop :=
  match x with
  | .panic v => Q (.panic v) a st'
  | .ret _ =>
    match st' l with
    | some (.loop s pend _ _ _ _ _ _) => s ≠ .busy ∧
      match pend with
      | none => Q .normal a (st'.del l)
      | some c => AW E r c Q a (st'.del l)
    | _ => False
theorem VR_yld {κ : K} {id : Nat} {L : Loc} (h : κ.loc id = some L) : VR κ (.yld id) (.func (.yield L.b) #[] #[]) := by
  simp only [VR]; exact ⟨L, L.b, h, rfl, fun _ => rfl⟩
theorem rangePost_ok {lp : Nat} {L : Loc} {a' : AA} {act' : Act} {rd : Option Nat} {κ0 : K} (hle0 : K.Le κ0 κ) (hL : κ.loc lp = some L) (hg : L.gen = 0) (hA : AR κ a' act') (hr : RdR κ r rd) {e : Ending} {w' : World} (hu : upE E κ (fun x st' => ARange E r lp Q a' x st') e w') :
    rangePost (Fr rd) 0 E.P L.b (upX E κ0 Q) act' e w' := by
  obtain ⟨κ1, x, st1, hle, hR1, he, hq⟩ := hu
  cases x with
  | panic v =>
    obtain ⟨cv, rfl, hv⟩ := he
    exact ⟨κ1, .panic v, a', st1, hle0.trans hle, hR1, hA.mono hle, ⟨cv, rfl, hv⟩, hq⟩
  | ret v =>
    obtain ⟨cv, rfl, hv⟩ := he
    simp only [ARange] at hq
    split at hq
    · rename_i s pend fn tm ps assign body d hl
      obtain ⟨hbusy, hq⟩ := hq
      obtain ⟨L1, hL1, hB1, _, _⟩ := hR1.dom lp _ hl
      obtain ⟨Lx, hLx, _, hgen, _⟩ := hle.loc lp L hL
      rw [hL1] at hLx; cases hLx
      obtain ⟨hg1, tmps1, db1, htm1, hget1, hheap1, hmk1⟩ := BR_loop (E := E) hB1
      have hLL : L1 = L := hgen (by omega)
      subst hLL
      obtain ⟨hR2, hK2⟩ := hR1.setObj hl hL1 (.loop { state := .exhausted, pending := pend, fn := fn, tmps := tmps1, params := ps, assign := assign, body := body, defers := db1 })
        (B := .loop .exhausted pend fn tm ps assign body d) (fun κ' hle hloc => hmk1 κ' _ _ _ hle hloc (by
          have := (Array.getElem?_eq_some_iff.1 hheap1).1
          simp [Array.getElem?_setIfInBounds, this]))
      have hR3 := hR2.forget (st' := st1.del lp) (fun id B hB => by
        simp only [St.del] at hB
        split at hB
        · cases hB
        · rename_i hne; rw [St.set_ne _ _ hne]; exact hB)
      have hle2 := hle.trans hK2
      refine ⟨pend, _, by
        have hb' : (s == LoopState.busy) = false := by simpa using hbusy
        simp only [Instr.endLoop, Sem.run_bind, hget1, Result.andThen, hb', Bool.false_eq_true, if_false, run_setObj' hheap1 (fun _ _ _ h => by cases h)]; rfl, ?_⟩
      cases pend with
      | none => exact ⟨_, .normal, a', _, hle0.trans hle2, hR3, hA.mono hle2, rfl, hq⟩
      | some c => exact wpIn_mono (hq _ _ act' rd hR3 (hA.mono hle2) (hr.mono hle2)) fun _ _ _ hu => upX_le (hle0.trans hle2) (fun _ _ _ h => h) hu
    · exact hq.elim
theorem AW.rangeFunc {g : Operand} {ps : Array Tmp} {assign body : Code} {f : FuncId} {fi ca : List AV} (hg : evU E a g = .clo (.func f) fi ca) (hcs : evC E a g) (hb : hasBody E.P f = true)
    (h : ∀ d l fn, st d = none → st l = none → l ≠ d → ACalls E f (fi ++ [.yld l] ++ ca) ((st.set d (.dfr true)).set l (.loop .ready none fn a.tm ps assign body d)) (ARange E none l Q { a with ds := .collected d :: a.ds })) :
    AW E none (.rangeFunc g ps assign body) Q a st := by
  intro κ w act rd hR hA hr
  simp only [RdR] at hr
  subst hr
  refine wpIn_rangeFunc fun fn _ => ?_
  have hv := unO_ok (hA.ev hR g) hcs
  rw [show unO (a.ev E g) = evU E a g from rfl, hg] at hv
  simp only [VR] at hv
  obtain ⟨cfi, cca, hge, hfi, hca⟩ := hv
  obtain ⟨d, hd1, hd2⟩ := hR.fresh
  obtain ⟨hR1, hK1⟩ := hR.alloc (g := 0) (cap := 0) (sz := 0) hd1 (o := .deferred (some [])) (B := .dfr true) ⟨rfl, by simpa using heap_alloc_new w _⟩
  obtain ⟨l, hl1, hl2⟩ := hR1.fresh
  have hld : l ≠ d := fun e => by subst e; rw [K.set_same] at hl1; cases hl1
  have hstl : st l = none := by rw [St.set_ne _ _ hld] at hl2; exact hl2
  let w1 := w.alloc (.deferred (some []))
  have hK2 : K.Le (κ.set d ⟨0, w.heap.size, 0, 0⟩) ((κ.set d ⟨0, w.heap.size, 0, 0⟩).set l ⟨0, w1.heap.size, 0, 0⟩) := K.le_set fun L0 h0 => by rw [hl1] at h0; cases h0
  obtain ⟨hR2, _⟩ := hR1.alloc (g := 0) (cap := 0) (sz := 0) hl1 (o := .loop { state := .ready, pending := none, fn, tmps := act.tmps, params := ps, assign, body, defers := w.heap.size }) (B := .loop .ready none fn a.tm ps assign body d)
    ⟨rfl, act.tmps, ⟨0, w.heap.size, 0, 0⟩, w.heap.size, VRs.mono (hK1.trans hK2) _ _ hA.t, by rw [K.set_ne _ _ (Ne.symm hld)]; simp, fun _ => rfl, heap_alloc_new w1 _⟩
  have hK := hK1.trans hK2
  have hyl := VR_yld (κ := (κ.set d ⟨0, w.heap.size, 0, 0⟩).set l ⟨0, w1.heap.size, 0, 0⟩) (id := l) (K.set_same _ _ _)
  have hargs : VRs ((κ.set d ⟨0, w.heap.size, 0, 0⟩).set l ⟨0, w1.heap.size, 0, 0⟩) (fi ++ [.yld l] ++ ca) (cfi ++ #[Value.func (.yield w1.heap.size) #[] #[]] ++ cca).toList := by
    have q1 : VRs ((κ.set d ⟨0, w.heap.size, 0, 0⟩).set l ⟨0, w1.heap.size, 0, 0⟩) [.yld l] [Value.func (.yield w1.heap.size) #[] #[]] := by
      simp only [VRs]; exact ⟨_, _, rfl, hyl, rfl⟩
    simpa using VRs_append (VRs_append (VRs.mono hK _ _ hfi) q1) (VRs.mono hK _ _ hca)
  have hcall := h d l fn hd2 hstl hld _ _ _ hR2 hargs
  refine ⟨w1.heap.size, [{ target := .collected w.heap.size, args := #[] }], (w1.alloc (.loop { state := .ready, pending := none, fn, tmps := act.tmps, params := ps, assign, body, defers := w.heap.size })),
    { target := .fn (.func f) cca, args := cfi ++ #[Value.func (.yield w1.heap.size) #[] #[]] }, (w1.alloc (.loop { state := .ready, pending := none, fn, tmps := act.tmps, params := ps, assign, body, defers := w.heap.size })), f, _, _, ?_, ?_, fun _ _ => trivial, ?_, fun h => by simp [Fence.wide] at h, CallsIn.mono hcall ?_⟩
  · rfl
  · have : (resolve act.eval (rangeCall g w1.heap.size) 0) = Deferred.ofValue (act.eval g) #[Value.func (.yield w1.heap.size) #[] #[]] := by
      simp [rangeCall, resolve, Act.eval]
    rw [this, hge]
    rfl
  · exact run_callFunc hb _ _
  · intro e w' hu
    refine rangePost_ok (r := none) (rd := none) (a' := { a with ds := .collected d :: a.ds }) (act' := { act with defers := [{ target := .collected w.heap.size, args := #[] }] ++ act.defers }) (κ0 := κ) (L := ⟨0, w1.heap.size, 0, 0⟩) hK (K.set_same _ _ _) rfl ⟨VRs.mono hK _ _ hA.t, ?_⟩ rfl hu
    refine ⟨_, _, rfl, ?_, (hA.mono hK).d⟩
    exact ⟨⟨0, w.heap.size, 0, 0⟩, w.heap.size, by rw [K.set_ne _ _ (Ne.symm hld)]; simp, rfl, fun _ => rfl⟩
end
end Go.Abs

/- THE ABSTRACT MEMORY (part 18): from a law's contract to the machine. -/
namespace Go.Abs
open Go.RowKit
def K.start (W : World) : K := { loc := fun _ => none, fz := fun b o => W.cell? ⟨b, o, none⟩, n0 := W.heap.size, w0 := W }
theorem Rel.start {E : Env} {W : World} (hg : ∀ g, VR (K.start W) (E.G g) (.pointer (some ⟨g, 0, none⟩))) (hw : E.W W.heap.size W) : Rel E (K.start W) (fun _ => none) W :=
  { dom := fun id B h => by cases h
    inj := fun id id' L L' h => by cases h
    fzw := fun b o v h => h
    sep := fun id L o h => by cases h
    bnd := ⟨0, fun _ _ => rfl⟩
    bel := Below.refl _ _
    n0 := Nat.le_refl _
    glob := hg
    wf := hw }
theorem law_calls {E : Env} {f : FuncId} {args : List AV} {cargs : Array Value} {W : World} (hg : ∀ g, VR (K.start W) (E.G g) (.pointer (some ⟨g, 0, none⟩))) (hw : E.W W.heap.size W)
    (h : ACalls E f args (fun _ => none) fun x _ => x = .ret (.bool true)) (hargs : VRs (K.start W) args cargs.toList) :
    Calls E.P f cargs W fun e W' => e = .returned (.bool true) ∧ Below W.heap.size W W' := by
  refine (callsIn_wide (n := 0)).1 (CallsIn.mono (h _ _ _ (Rel.start hg hw) hargs) ?_)
  rintro e w' ⟨κ', x, st', hle, hR, he, rfl⟩
  obtain ⟨cv, rfl, hv⟩ := he
  simp only [VR] at hv
  subst hv
  have hb := hR.bel
  rw [hle.n0, hle.w0] at hb
  exact ⟨rfl, hb⟩
theorem glob_nil {W : World} (g : Nat) : VR (K.start W) (.fptr []) (.pointer (some ⟨g, 0, none⟩)) := by
  simp only [VR]; exact ⟨g, 0, rfl, by simp [VRF]⟩
end Go.Abs

/- THE ABSTRACT MEMORY (part 19): loops by their frames; whole numbers that need no wrap. -/
namespace Go.Abs
open Go.RowKit
theorem w_i64 {n : Int} (h0 : -9223372036854775808 ≤ n) (h1 : n ≤ 9223372036854775807) : IntKind.i64.wrap n = n := by
  simp only [IntKind.wrap, IntKind.signed, IntKind.bits]; simp; (first | omega | (split <;> omega))
theorem w_i32 {n : Int} (h0 : -2147483648 ≤ n) (h1 : n ≤ 2147483647) : IntKind.i32.wrap n = n := by
  simp only [IntKind.wrap, IntKind.signed, IntKind.bits]; simp; (first | omega | (split <;> omega))
theorem w_u64 {n : Int} (h0 : 0 ≤ n) (h1 : n ≤ 18446744073709551615) : IntKind.u64.wrap n = n := by
  simp only [IntKind.wrap, IntKind.signed, IntKind.bits]; simp; (first | omega | (split <;> omega))
theorem w_u32 {n : Int} (h0 : 0 ≤ n) (h1 : n ≤ 4294967295) : IntKind.u32.wrap n = n := by
  simp only [IntKind.wrap, IntKind.signed, IntKind.bits]; simp; (first | omega | (split <;> omega))
theorem w_u8 {n : Int} (h0 : 0 ≤ n) (h1 : n ≤ 255) : IntKind.u8.wrap n = n := by
  simp only [IntKind.wrap, IntKind.signed, IntKind.bits]; simp; (first | omega | (split <;> omega))
section
variable {E : Env} {r : Option Nat} {Q : APost}
theorem AW.loopF {ι : Type} {c : Code} {a : AA} {st : St} (F : ι → List AV) (G : ι → St) (I : ι → Prop) (μ : ι → Nat) (i0 : ι) (h0 : Weak a.tm (F i0)) (hst : st = G i0) (hI : I i0)
    (round : ∀ i, I i → AW E r c (AThen (fun a' st' => ∃ j, I j ∧ μ j < μ i ∧ Weak a'.tm (F j) ∧ a'.ds = a.ds ∧ st' = G j) Q) { tm := F i, ds := a.ds } (G i)) : AW E r (.loop c) Q a st := by
  subst hst
  have key : ∀ n, ∀ i, I i → μ i = n → ∀ (b : Frame) (k : List Item) (cs : List Frame) κ w act rd, b.roundOf = (Fr rd).round → (Fr rd).fn b.fn → (Fr rd).room (cs.length + 1 + 0) → Rel E κ (G i) w → AR κ { tm := F i, ds := a.ds } act → RdR κ r rd →
      ∃ e a' w', upX E κ Q e a' w' ∧ ArrivesIn (Machine.fenced E.P (Fr rd)) E.P (lone (b.atR act (.code c :: .inLoop c :: k)) cs w) b k cs e a' w' := by
    intro n
    induction n using Nat.strongRecOn with
    | _ n ih =>
      intro i hI hn b k cs κ w act rd hro hb hr h1 h2 h3
      obtain ⟨e, a₁, w₁, ⟨κ', x', a', st', hle, h1', h2', hx, hq⟩, harr⟩ := round i hI κ w act rd h1 h2 h3 b (.inLoop c :: k) cs hro hb hr
      cases x' with
      | normal =>
        simp only [XR] at hx; subst hx
        obtain ⟨j, hIj, hlt, hw, hds, rfl⟩ := hq
        have h2j : AR κ' { tm := F j, ds := a.ds } a₁ := ⟨VRs_weak hw h2'.t, by rw [← hds]; exact h2'.d⟩
        obtain ⟨e₂, a₂, w₂, hq₂, harr₂⟩ := ih (μ j) (by omega) j hIj rfl b k cs κ' w₁ a₁ rd hro hb hr h1' h2j (h3.mono hle)
        exact ⟨e₂, a₂, w₂, upX_le hle (fun _ _ _ h => h) hq₂, .of_steps (StepsIn.trans harr (.one (fenced_calm hb hr rfl) stepR_inLoop)) harr₂⟩
      | exit id => simp only [XR] at hx; subst hx; exact ⟨_, a₁, w₁, ⟨κ', .exit id, a', st', hle, h1', h2', rfl, hq⟩, .pass (x := .inLoop c) rfl (fun _ _ => .inl (by simp)) harr⟩
      | goto l => simp only [XR] at hx; subst hx; exact ⟨_, a₁, w₁, ⟨κ', .goto l, a', st', hle, h1', h2', rfl, hq⟩, .pass (x := .inLoop c) rfl (fun _ _ => .inl (by simp)) harr⟩
      | ret => simp only [XR] at hx; subst hx; exact ⟨_, a₁, w₁, ⟨κ', .ret, a', st', hle, h1', h2', rfl, hq⟩, .pass (x := .inLoop c) rfl (fun _ _ => .inl (by simp)) harr⟩
      | panic v => simp only [XR] at hx; obtain ⟨cv, rfl, hv⟩ := hx; exact ⟨_, a₁, w₁, ⟨κ', .panic v, a', st', hle, h1', h2', ⟨cv, rfl, hv⟩, hq⟩, .pass (x := .inLoop c) rfl (fun _ _ => .inl (by simp)) harr⟩
  intro κ w act rd h1 h2 h3 b k cs hro hb hr
  obtain ⟨e, a', w', hq, harr⟩ := key _ i0 hI rfl b k cs κ w act rd hro hb hr h1 ⟨VRs_weak h0 h2.t, h2.d⟩ h3
  exact ⟨e, a', w', hq, .of_steps (.one (fenced_calm hb hr rfl) stepR_loop) harr⟩
end
end Go.Abs

/- THE ABSTRACT MEMORY (part 20): a round, by what it keeps. -/
namespace Go.Abs
open Go.RowKit
attribute [go_sem] aEq Int.natCast_zero Int.cast_ofNat_Int Bool.and_true Bool.true_and Bool.or_true Bool.true_or Bool.and_false Bool.false_and Bool.or_false Bool.false_or Bool.not_true Bool.not_false eq_self true_implies false_implies
section
variable {E : Env} {st : St} {a : AA} {r : Option Nat} {Q : APost} {Kn : ANext} {o : Oper}
theorem ARound.mono {l : Nat} {K1 K2 : AV → St → Prop} (h : ∀ v st, K1 v st → K2 v st) (x : AExit) (a : AA) (st : St) (hx : ARound l K1 x a st) : ARound l K2 x a st := by
  simp only [ARound] at hx ⊢
  split at hx
  · split at hx <;> first | exact h _ _ hx | exact hx
  · exact hx
theorem ARound.normal {l : Nat} {Kn : AV → St → Prop} {a : AA} {st : St} {s p fn tm ps asg body d} (h : st l = some (.loop s p fn tm ps asg body d)) (hk : Kn (.bool true) (st.set l (.loop .ready none fn tm ps asg body d))) : ARound l Kn .normal a st := by
  simp only [ARound, h]; exact hk
theorem AOp.yieldI {x : Operand} {args : Array Operand} {tys : Array TypeId} {l : Nat} {s : LoopState} {pend : Option Code} {fn : FuncId} {tm : List AV} {ps : Array Tmp} {assign body : Code} {d : Nat} (I : AV → St → Prop)
    (ho : o.op = .call { callee := .value x, args := args, argTypes := tys }) (hx : evU E a x = .yld l) (hcs : evCs E a (x :: args.toList)) (hl : st l = some (.loop s pend fn tm ps assign body d)) (hps : args.size = ps.size)
    (hk : ∀ v st', I v st' → Kn (a.put o.dst v) st')
    (h : AW E (some l) assign (AThen (fun a1 st1 => ∃ pend fn tm ps assign' body' d, st1 l = some (.loop .ready pend fn tm ps assign' body' d) ∧
        AW E (some l) body (ARound l I) a1 (st1.set l (.loop .busy pend fn tm ps assign' body' d))) (fun _ _ _ => False))
      { tm := bindTm tm ps.toList (args.toList.map (evU E a)), ds := [] } st) : AOp E r o Kn Q a st := by
  refine AOp.yield ho hx hcs hl hps (AW.mono h ?_)
  intro x a1 st1 hq
  cases x <;> try exact hq
  obtain ⟨pend, fn, tm, ps, assign', body', d, h1, h2⟩ := hq
  exact ⟨pend, fn, tm, ps, assign', body', d, h1, AW.mono h2 (ARound.mono hk)⟩
def OwnS (st : St) (t : TypeId) (sz : Nat) (v : AV) (es : List (List AV)) (ok : Nat → Prop) : Prop :=
  (v = .nils ∧ es = []) ∨ ∃ id g, v = .arr id g sz 0 es.length ∧ st id = some (.cells t g sz es) ∧ ok id
theorem AOp.appendO {t e : TypeId} {x y : Operand} {sz by_ : Nat} {es xs : List (List AV)} {ok : Nat → Prop} {v : AV} (ho : o.op = .call { callee := .builtin .append, args := #[x, y], argTypes := #[t, t] })
    (hcs : evCs E a [x, y]) (ht : E.P.underlying t = some (.slice e)) (hz : tsz E.P e = some sz) (hzz : hasZero E.P e = some sz) (hb : tby E.P e = some by_) (hpos : 0 < sz)
    (hs : evU E a x = v) (hown : OwnS st e sz v es ok) (hy : aElems st (evU E a y) = some xs) (hys : aSz (evU E a y) = some sz) (hone : ∀ e ∈ xs, ∀ c ∈ e, isCell c = true)
    (hlim : (es.length + xs.length) * by_ ≤ 140737488355328) (hlim2 : es.length + xs.length ≤ maxLen)
    (hfr : ∀ id, st id = none → ok id)
    (hk : ∀ v' id b, (st id = none ∨ ok id) → v' ≠ .junk → OwnS (st.set id b) e sz v' (es ++ xs) ok → Kn (a.put o.dst v') (st.set id b)) (hne : xs ≠ []) : AOp E r o Kn Q a st := by
  rcases hown with ⟨rfl, rfl⟩ | ⟨id, g, rfl, h1, h2⟩
  · refine AOp.append_nil ho hcs ht hz hzz hb hpos hs hy hys hone (by simpa using hlim) (by simpa using hlim2) hne (fun e => absurd e hne) fun _ id hid => ?_
    exact hk _ id _ (.inl hid) (by simp) (.inr ⟨id, 0, by simp, by simp [St.set], hfr id hid⟩)
  · refine AOp.append ho hcs ht hz hzz hb hpos hs h1 rfl hy hys hone hlim hlim2 hne ?_
    exact hk _ id _ (.inr h2) (by simp) (.inr ⟨id, g + 1, by simp, by simp [St.set], h2⟩)
end
end Go.Abs

/- THE ABSTRACT MEMORY (part 21): regions whose order is drawn: what only hands on fixed values may be taken in the text's order. -/
namespace Go.Abs
open Go.RowKit
def Same (ops : Array Oper) (o : Oper) (a' a : AA) : Prop := ∀ t ∈ o.looksAt ops, a'.get t = a.get t
section
variable {E : Env} {r : Option Nat} {Q : APost} {ops : Array Oper}
def Fixed (E : Env) (r : Option Nat) (ops : Array Oper) (Q : APost) (i : Nat) (v : AV) (a : AA) (st : St) : Prop :=
  ∃ o, ops[i]? = some o ∧ ∀ a' rest, Same ops o a' a → AOps E r ops Q rest (a'.put o.dst v) st → AOps E r ops Q (i :: rest) a' st
def Fx (E : Env) (r : Option Nat) (ops : Array Oper) (Q : APost) (Kn : ANext) : List Nat → AA → St → Prop
  | [], a, st => Kn a st
  | i :: l, a, st => ∃ v, Fixed E r ops Q i v a st ∧ Fx E r ops Q Kn l (a.put ((ops[i]?).bind (·.dst)) v) st
theorem get_put_ne {a : AA} {dst : Option Tmp} {v : AV} {t : Nat} (h : ∀ d, dst = some d → d ≠ t) : (a.put dst v).get t = a.get t := by
  cases dst with
  | none => rfl
  | some d =>
    have hne := h d rfl
    simp [AA.put, AA.get, List.getD, List.getElem?_set_ne hne]
theorem put_comm (a : AA) {x y : Option Tmp} (v u : AV) (h : ∀ d, x = some d → y ≠ some d) : (a.put x v).put y u = (a.put y u).put x v := by
  cases x with
  | none => rfl
  | some d =>
    cases y with
    | none => rfl
    | some e =>
      have hne : d ≠ e := fun he => h d rfl (he ▸ rfl)
      simp [AA.put, List.set_comm _ _ hne]
theorem Fixed.congr {i : Nat} {v : AV} {a b : AA} {st : St} {o : Oper} (ho : ops[i]? = some o) (h : Fixed E r ops Q i v a st) (hs : Same ops o b a) : Fixed E r ops Q i v b st := by
  obtain ⟨o', ho', h⟩ := h
  rw [ho] at ho'; cases ho'
  exact ⟨o, ho, fun a' rest hs' hk => h a' rest (fun t ht => (hs' t ht).trans (hs t ht)) hk⟩
theorem Fx.front {Kn : ANext} {i : Nat} {oi : Oper} (hi : ops[i]? = some oi) : ∀ (xs ys : List Nat) (a : AA) (st : St), Fx E r ops Q Kn (xs ++ i :: ys) a st → (∀ x ∈ xs, ∀ o, ops[x]? = some o → o.apart ops oi = true) →
    ∃ v, Fixed E r ops Q i v a st ∧ Fx E r ops Q Kn (xs ++ ys) (a.put oi.dst v) st
  | [], ys, a, st, h, _ => by
    obtain ⟨v, h1, h2⟩ := h
    rw [hi] at h2
    exact ⟨v, h1, h2⟩
  | x :: xs, ys, a, st, h, hx => by
    obtain ⟨u, h1, h2⟩ := h
    have h1' := h1
    obtain ⟨ox, hox, _⟩ := h1'
    obtain ⟨p1, p2, p3⟩ := Oper.apart_spec (hx x (by simp) ox hox)
    rw [hox] at h2
    obtain ⟨v, g1, g2⟩ := Fx.front hi xs ys _ st h2 (fun y hy => hx y (by simp [hy]))
    refine ⟨v, g1.congr hi fun t ht => (get_put_ne fun d hd e => p1 d hd (e ▸ ht)).symm, u, h1.congr hox fun t ht => get_put_ne fun d hd e => p3 d hd (e ▸ ht), ?_⟩
    rw [hox]
    show Fx E r ops Q Kn (xs ++ ys) ((a.put oi.dst v).put ox.dst u) st
    rw [← put_comm a u v p2]
    exact g2
def Live (md : Region.Mode) (ops : Array Oper) : Prop := ∀ listed : Array Bool, listed.size = ops.size → (∃ i, listed.getD i true = false) → Region.ready md ops listed ≠ []
def Ordered (ops : Array Oper) : Prop := ∀ i j oi oj, i < j → ops[i]? = some oi → ops[j]? = some oj → oi.apart ops oj = true ∨ ∃ e ∈ oj.after, e.on = i ∧ Region.binds .any e = true
theorem binds_any {md : Region.Mode} {e : Edge} (h : Region.binds .any e = true) : Region.binds md e = true := by
  cases e with
  | mk on ground => cases ground <;> simp_all [Region.binds]
def left (listed : Array Bool) (n : Nat) : List Nat := (List.range n).filter fun i => !listed.getD i true
theorem filter_split {p : Nat → Bool} : ∀ {l : List Nat} {i : Nat}, l.Pairwise (· < ·) → i ∈ l → p i = true → ∃ xs ys, l.filter p = xs ++ i :: ys ∧ (∀ x ∈ xs, x < i ∧ p x = true) ∧ l.filter (fun j => p j && j != i) = xs ++ ys
  | [], i, _, h, _ => by cases h
  | a :: l, i, hp, h, hi => by
    simp only [List.pairwise_cons] at hp
    by_cases e : a = i
    · subst e
      refine ⟨[], l.filter p, by simp [hi], by simp, ?_⟩
      simp only [List.filter_cons, hi, bne_self_eq_false, Bool.and_false, Bool.false_eq_true, if_false, List.nil_append]
      exact List.filter_congr fun x hx => by
        have := hp.1 x hx
        have : x ≠ a := by omega
        simp [this]
    · have hm : i ∈ l := by simp only [List.mem_cons] at h; exact h.resolve_left (Ne.symm e)
      obtain ⟨xs, ys, h1, h2, h3⟩ := filter_split hp.2 hm hi
      cases hpa : p a with
      | true =>
        refine ⟨a :: xs, ys, by simp [hpa, h1], ?_, by simp [hpa, e, h3]⟩
        intro x hx
        simp only [List.mem_cons] at hx
        rcases hx with rfl | hx
        · exact ⟨hp.1 i hm, hpa⟩
        · exact h2 x hx
      | false => exact ⟨xs, ys, by simp [hpa, h1], h2, by simp [hpa, h3]⟩
theorem AOps.drawn {md : Region.Mode} {Kn : ANext} (hK : ∀ a st, Kn a st → Q .normal a st) (hl : Live md ops) (ho : Ordered ops) : ∀ (fuel t : Nat) (listed : Array Bool) (a : AA) (st : St), listed.size = ops.size → (left listed ops.size).length ≤ fuel →
    Fx E r ops Q Kn (left listed ops.size) a st → AOps E r ops Q (Region.linearise.go md ops fuel t listed []) a st
  | 0, t, listed, a, st, hs, hf, h => by
    have : left listed ops.size = [] := List.eq_nil_of_length_eq_zero (by omega)
    rw [this] at h
    exact AOps.nil (hK _ _ h)
  | fuel + 1, t, listed, a, st, hs, hf, h => by
    have hdone : Region.ready md ops listed = [] → left listed ops.size = [] := fun hr => by
      apply List.eq_nil_iff_forall_not_mem.2
      intro i hi
      simp only [left, List.mem_filter, Bool.not_eq_true'] at hi
      exact hl listed hs ⟨i, hi.2⟩ hr
    have hgo : Region.linearise.go md ops (fuel + 1) t listed [] = match (Region.ready md ops listed)[t % (Region.ready md ops listed).length]? with
        | some i => i :: Region.linearise.go md ops fuel (t / (Region.ready md ops listed).length) (listed.setIfInBounds i true) []
        | .none => [] := by
      simp only [Region.linearise.go, Region.ready]
      split
      · rename_i heq
        rw [linearise_go_acc, heq]; rfl
      · rename_i heq
        rw [heq]; rfl
    rw [hgo]
    split
    · rename_i i hi
      have hmem := List.mem_of_getElem? hi
      obtain ⟨hn, oi, hoi, hed⟩ := mem_ready.1 hmem
      have hlt : i < ops.size := (Array.getElem?_eq_some_iff.1 hoi).1
      obtain ⟨xs, ys, e1, e2, e3⟩ := filter_split (p := fun i => !listed.getD i true) (l := List.range ops.size) List.pairwise_lt_range (List.mem_range.2 hlt) (by simp [hn])
      have e4 : left (listed.setIfInBounds i true) ops.size = xs ++ ys := by
        rw [← e3, left]
        refine List.filter_congr fun j hj => ?_
        by_cases hji : j = i
        · subst hji; simp [hs, hlt]
        · rw [getD_set_ne true (Ne.symm hji)]; simp [hji]
      rw [left, e1] at h
      obtain ⟨v, g1, g2⟩ := Fx.front hoi xs ys a st h fun x hx o hox => by
        rcases ho x i o oi (e2 x hx).1 hox hoi with q | ⟨e, he, rfl, hb⟩
        · exact q
        · have := hed e he (binds_any hb)
          have h2 := (e2 e.on hx).2
          have hlx : e.on < listed.size := by rw [hs]; exact (Array.getElem?_eq_some_iff.1 hox).1
          simp [hlx] at this h2
          rw [this] at h2; cases h2
      obtain ⟨o', ho', g1⟩ := g1
      rw [hoi] at ho'; cases ho'
      refine g1 a _ (fun _ _ => rfl) (AOps.drawn hK hl ho fuel _ _ _ _ (by simpa using hs) ?_ (by rw [e4]; exact g2))
      rw [e4]
      rw [left, e1] at hf
      simp only [List.length_append, List.length_cons] at hf ⊢
      omega
    · rename_i hnone
      have hr : Region.ready md ops listed = [] := by
        cases hc : Region.ready md ops listed with
        | nil => rfl
        | cons x l =>
          exfalso
          rw [hc] at hnone
          have : t % (x :: l).length < (x :: l).length := Nat.mod_lt _ (by simp)
          rw [List.getElem?_eq_getElem this] at hnone
          first | exact hnone _ rfl | cases hnone
      rw [hdone hr] at h
      exact AOps.nil (hK _ _ h)
def topo (md : Region.Mode) (ops : Array Oper) : List Nat → List Nat → Bool
  | _, [] => true
  | seen, i :: l => (match ops[i]? with | some o => o.after.toList.all fun e => !Region.binds md e || (seen.contains e.on && decide (e.on < ops.size)) | none => false) && topo md ops (i :: seen) l
theorem topo_live {md : Region.Mode} : ∀ (l seen : List Nat), topo md ops seen l = true → ∀ listed : Array Bool, listed.size = ops.size → (∀ i ∈ seen, i < ops.size → listed.getD i false = true) → (∃ i ∈ l, listed.getD i true = false) → ∃ i, i ∈ Region.ready md ops listed
  | [], seen, _, listed, _, _, ⟨i, h, _⟩ => by cases h
  | i :: l, seen, ht, listed, hsz, hs, ⟨j, hj, hjn⟩ => by
    simp only [topo, Bool.and_eq_true] at ht
    obtain ⟨ht1, ht2⟩ := ht
    cases hi : listed.getD i true with
    | false =>
      refine ⟨i, mem_ready.2 ⟨hi, ?_⟩⟩
      split at ht1
      · rename_i o ho
        refine ⟨o, ho, fun e he hb => ?_⟩
        have := List.all_eq_true.1 ht1 e (by simpa using he)
        simp only [hb, Bool.not_true, Bool.false_or, Bool.and_eq_true, List.contains_iff_mem, decide_eq_true_eq] at this
        exact hs e.on this.1 this.2
      · cases ht1
    | true =>
      refine topo_live l (i :: seen) ht2 listed hsz (fun k hk hlt => ?_) ⟨j, ?_, hjn⟩
      · simp only [List.mem_cons] at hk
        rcases hk with rfl | hk
        · rcases Nat.lt_or_ge k listed.size with h | h
          · simpa [h] using hi
          · omega
        · exact hs k hk hlt
      · simp only [List.mem_cons] at hj
        rcases hj with rfl | hj
        · rw [hi] at hjn; cases hjn
        · exact hj
theorem live_of {md : Region.Mode} (p : List Nat) (h1 : topo md ops [] p = true) (h2 : (List.range ops.size).all (fun i => p.contains i) = true) : Live md ops := by
  intro listed hs ⟨i, hi⟩ hr
  have hlt : i < ops.size := by
    rw [← hs]
    rcases Nat.lt_or_ge i listed.size with h | h
    · exact h
    · simp [Array.getElem?_eq_none h] at hi
  have hp : i ∈ p := by simpa using List.all_eq_true.1 h2 i (List.mem_range.2 hlt)
  obtain ⟨j, hj⟩ := topo_live p [] h1 listed hs (by simp) ⟨i, hp, hi⟩
  rw [hr] at hj; cases hj
def orderedB (ops : Array Oper) : Bool := (List.range ops.size).all fun j => (List.range j).all fun i =>
  match ops[i]?, ops[j]? with
  | some oi, some oj => oi.apart ops oj || oj.after.toList.any fun e => e.on == i && Region.binds .any e
  | _, _ => true
theorem ordered_of (h : orderedB ops = true) : Ordered ops := by
  intro i j oi oj hij hi hj
  have hlt : j < ops.size := (Array.getElem?_eq_some_iff.1 hj).1
  have := List.all_eq_true.1 (List.all_eq_true.1 h j (List.mem_range.2 hlt)) i (List.mem_range.2 hij)
  simp only [hi, hj, Bool.or_eq_true, List.any_eq_true, Bool.and_eq_true, beq_iff_eq] at this
  rcases this with q | ⟨e, he, q1, q2⟩
  · exact .inl q
  · exact .inr ⟨e, by simpa using he, q1, q2⟩
def drawnB (ops : Array Oper) (p : List Nat) : Bool :=
  topo .any ops [] (List.range ops.size) && topo .text ops [] (List.range ops.size) && topo .gc ops [] p && (List.range ops.size).all (fun i => p.contains i) && orderedB ops
theorem AW.drawn {id : Nat} {a : AA} {st : St} (p : List Nat) (hb : drawnB ops p = true)
    (h : ∀ (Q' : APost) (Kn : ANext), (∀ x a st, Q x a st → Q' x a st) → (∀ a st, Q .normal a st → Kn a st) → (∀ a st, Kn a st → Q' .normal a st) → Fx E r ops Q' Kn (List.range ops.size) a st) : AW E r (.region id ops true) Q a st := by
  simp only [drawnB, Bool.and_eq_true] at hb
  obtain ⟨⟨⟨⟨b1, b2⟩, b3⟩, b4⟩, b5⟩ := hb
  have hr : (List.range ops.size).all (fun i => (List.range ops.size).contains i) = true := by simp
  have hl : ∀ md, Live md ops := fun md => by
    cases md
    · exact live_of _ b2 hr
    · exact live_of _ b3 b4
    · exact live_of _ b1 hr
  have h0 := h Q (Q .normal) (fun _ _ _ h => h) (fun _ _ h => h) (fun _ _ h => h)
  have hleft : left (Array.replicate ops.size false) ops.size = List.range ops.size := by
    rw [left, List.filter_eq_self]
    intro i hi
    simp [List.mem_range.1 hi]
  have hgo : ∀ md t, AOps E r ops Q (Region.linearise md ops t) a st := fun md t =>
    AOps.drawn (fun _ _ h => h) (hl md) (ordered_of b5) ops.size t _ a st (by simp) (by rw [hleft]; simp) (by rw [hleft]; exact h0)
  refine AW.region_draw fun t => ?_
  unfold Region.schedule
  split
  · exact hgo _ _
  · exact hgo _ _
theorem same_get {o : Oper} {a' a : AA} (h : Same ops o a' a) (x : Operand) (hx : x ∈ o.op.operands.toList) : a'.ev E x = a.ev E x := by
  cases x with
  | tmp t => exact h t (by simp only [Oper.looksAt, List.mem_append, List.mem_filterMap]; exact .inl ⟨_, hx, rfl⟩)
  | _ => rfl
theorem evCs_congr {a' a : AA} : ∀ {l : List Operand}, (∀ x ∈ l, a'.ev E x = a.ev E x) → (evCs E a' l ↔ evCs E a l)
  | [], _ => Iff.rfl
  | x :: l, h => by simp only [evCs, evC, h x (by simp), evCs_congr (l := l) fun y hy => h y (by simp [hy])]
theorem pure1_congr {ev ev' : Operand → AV} (P : Program) (op : Op) (h : ∀ x ∈ op.operands.toList, ev' x = ev x) : pureOp1 P ev' op = pureOp1 P ev op := by
  cases op
  case makeFunc fn fi ca =>
    simp only [Op.operands, Array.toList_append, List.mem_append] at h
    simp only [pureOp1, List.map_congr_left fun x hx => h x (.inl hx), List.map_congr_left fun x hx => h x (.inr hx)]
  case slice t x lo hi mx =>
    have hx : ev' x = ev x := h x (by simp [Op.operands])
    cases mx with
    | some m => rfl
    | none =>
      have hlo : lo.map ev' = lo.map ev := by cases lo with
        | none => rfl
        | some y => simp [h y (by simp [Op.operands])]
      have hhi : hi.map ev' = hi.map ev := by cases hi with
        | none => rfl
        | some y => simp [h y (by simp [Op.operands])]
      simp only [pureOp1, hx, hlo, hhi]
  case build t parts =>
    simp only [pureOp1]
    congr 1
    exact List.map_congr_left fun q hq => by rw [h q.2 (by simp only [Op.operands, List.toList_toArray, List.mem_map]; exact ⟨q, hq, rfl⟩)]
  case call c =>
    have hc : ∀ x ∈ c.args.toList, ev' x = ev x := fun x hx => h x (by simp only [Op.operands, Call.operands, Array.toList_append, List.mem_append]; exact .inr hx)
    simp only [pureOp1, aBuiltin]
    split
    · rename_i h1 h2 _; rw [h2] at hc; rw [hc _ (by simp)]
    · rename_i _ h2; rw [h2] at hc; rw [hc _ (by simp), hc _ (by simp)]
    · rename_i _ h2; rw [h2] at hc; rw [hc _ (by simp), hc _ (by simp)]
    · rfl
  all_goals simp only [pureOp1]
  all_goals
    simp only [Op.operands, List.mem_cons, List.not_mem_nil, or_false, forall_eq_or_imp, forall_eq] at h
    first | rw [h] | rw [h.1, h.2]
theorem pure_congr {a' a : AA} (op : Op) (h : ∀ x ∈ op.operands.toList, a'.ev E x = a.ev E x) {c : Prop} {v : AV} (hp : pureOp E a op = some (c, v)) (hc : c) : ∃ c', pureOp E a' op = some (c', v) ∧ c' := by
  have hu : ∀ x ∈ op.operands.toList, evU E a' x = evU E a x := fun x hx => by simp only [evU, h x hx]
  have h1 := pure1_congr E.P op hu
  have h2 := evCs_congr (l := op.operands.toList) h
  have key : pureOp E a op = (pureOp1 E.P (evU E a) op).map (fun p => (evCs E a op.operands.toList ∧ p.1, p.2)) → pureOp E a' op = (pureOp1 E.P (evU E a') op).map (fun p => (evCs E a' op.operands.toList ∧ p.1, p.2)) → ∃ c', pureOp E a' op = some (c', v) ∧ c' := fun e1 e2 => by
    rw [e1] at hp
    rw [e2, h1]
    cases hq : pureOp1 E.P (evU E a) op with
    | none => rw [hq] at hp; simp at hp
    | some p =>
      rw [hq] at hp
      simp only [Option.map_some, Option.some.injEq, Prod.mk.injEq] at hp
      obtain ⟨rfl, rfl⟩ := hp
      exact ⟨_, rfl, h2.2 hc.1, hc.2⟩
  cases op
  case move x => exact ⟨True, by simp only [pureOp] at hp ⊢; rw [h x (by simp [Op.operands])]; simp_all, trivial⟩
  case assign x => exact ⟨True, by simp only [pureOp] at hp ⊢; rw [h x (by simp [Op.operands])]; simp_all, trivial⟩
  case pick x y z =>
    simp only [pureOp, evU, evC] at hp ⊢
    rw [h x (by simp [Op.operands]), h y (by simp [Op.operands]), h z (by simp [Op.operands])]
    exact ⟨c, hp, hc⟩
  all_goals exact key rfl rfl
theorem Fixed.pure {i : Nat} {o : Oper} {v : AV} {c : Prop} {a : AA} {st : St} (ho : ops[i]? = some o) (hg : o.guard = none) (hp : pureOp E a o.op = some (c, v)) (hc : c) : Fixed E r ops Q i v a st := by
  refine ⟨o, ho, fun a' rest hs hk => ?_⟩
  obtain ⟨c', h1, h2⟩ := pure_congr o.op (same_get hs) hp hc
  exact AOps.cons ho hg (AOp.pure (pureOp_ok h1 h2) hk)
theorem same_guard {o : Oper} {j d : Nat} {want : Bool} {a' a : AA} (hs : Same ops o a' a) (hg : o.guard = some (j, want)) (hd : (ops[j]?).bind (·.dst) = some d) : a'.get d = a.get d :=
  hs d (by simp only [Oper.looksAt, List.mem_append, hg]; exact .inr (by rw [hd]; simp))
theorem Fixed.guard_pure {i : Nat} {o : Oper} {v : AV} {c : Prop} {a : AA} {st : St} {j d : Nat} {want g : Bool} (ho : ops[i]? = some o) (hg : o.guard = some (j, want)) (hd : (ops[j]?).bind (·.dst) = some d) (hy : agd (a.get d) want = some g)
    (hp : pureOp E a o.op = some (c, v)) (hc : g = true → c) (hc2 : optC g v) : Fixed E r ops Q i (optV g v) a st := by
  refine ⟨o, ho, fun a' rest hs hk => ?_⟩
  refine AOps.guard_pure ho hg hd (by rw [same_guard hs hg hd]; exact hy) (fun e => ?_) (AOps.opt hc2 hk)
  obtain ⟨c', h1, h2⟩ := pure_congr o.op (same_get hs) hp (hc e)
  exact pureOp_ok h1 h2
theorem ev_congr {o : Oper} {a' a : AA} (hs : Same ops o a' a) {x : Operand} {args : Array Operand} {tys : Array TypeId} (ho : o.op = .call { callee := .value x, args := args, argTypes := tys }) :
    evU E a' x = evU E a x ∧ args.toList.map (evU E a') = args.toList.map (evU E a) ∧ (evCs E a (x :: args.toList) → evCs E a' (x :: args.toList)) := by
  have hall : ∀ y ∈ x :: args.toList, a'.ev E y = a.ev E y := fun y hy => same_get hs y (by rw [ho]; simpa [Op.operands, Call.operands] using hy)
  exact ⟨by simp only [evU, hall x (by simp)], List.map_congr_left fun y hy => by simp only [evU, hall y (by simp [hy])], (evCs_congr hall).2⟩
theorem Fixed.call {i : Nat} {o : Oper} {v : AV} {a : AA} {st : St} {x : Operand} {f : FuncId} {fi ca : List AV} {args : Array Operand} {tys : Array TypeId} (hi : ops[i]? = some o) (hg : o.guard = none)
    (ho : o.op = .call { callee := .value x, args := args, argTypes := tys }) (hx : evU E a x = .clo (.func f) fi ca) (hcs : evCs E a (x :: args.toList)) (hb : hasBody E.P f = true)
    (h : ACalls E f (fi ++ args.toList.map (evU E a) ++ ca) st fun e st' => st' = st ∧ e = .ret v) : Fixed E r ops Q i v a st := by
  refine ⟨o, hi, fun a' rest hs hk => ?_⟩
  obtain ⟨e1, e2, e3⟩ := ev_congr (E := E) hs ho
  refine AOps.cons hi hg (AOp.call ho (by rw [e1, hx]) (e3 hcs) hb (ACalls.mono (by rw [e2]; exact h) ?_))
  rintro e st' ⟨rfl, rfl⟩
  exact hk
theorem Fixed.guard_call {i : Nat} {o : Oper} {v : AV} {a : AA} {st : St} {x : Operand} {f : FuncId} {fi ca : List AV} {args : Array Operand} {tys : Array TypeId} {j d : Nat} {want g : Bool} (hi : ops[i]? = some o) (hg : o.guard = some (j, want)) (hd : (ops[j]?).bind (·.dst) = some d) (hy : agd (a.get d) want = some g)
    (ho : o.op = .call { callee := .value x, args := args, argTypes := tys }) (hx : g = true → evU E a x = .clo (.func f) fi ca) (hcs : g = true → evCs E a (x :: args.toList)) (hb : hasBody E.P f = true)
    (h : g = true → ACalls E f (fi ++ args.toList.map (evU E a) ++ ca) st fun e st' => st' = st ∧ e = .ret v) : Fixed E r ops Q i (.opt g v) a st := by
  refine ⟨o, hi, fun a' rest hs hk => ?_⟩
  obtain ⟨e1, e2, e3⟩ := ev_congr (E := E) hs ho
  refine AOps.guard hi hg hd (by rw [same_guard hs hg hd]; exact hy) (fun e => ?_) (fun e => by subst e; exact AOps.putMono (fun κ cv h => VR_opt_false h) hk)
  subst e
  refine AOp.call ho (by rw [e1, hx rfl]) (e3 (hcs rfl)) hb (ACalls.mono (by rw [e2]; exact h rfl) ?_)
  rintro e st' ⟨rfl, rfl⟩
  exact AOps.putMono (fun κ cv h => VR_opt_true h) hk
theorem Fixed.loadCell {i : Nat} {o : Oper} {a : AA} {st : St} {t t0 : TypeId} {x : Operand} {id g sz k f : Nat} {es : List (List AV)} (hi : ops[i]? = some o) (hg : o.guard = none) (ho : o.op = .load t x) (hx : evU E a x = .ptr id g k f) (hcs : evC E a x) (hst : st id = some (.cells t0 g sz es)) (hag : aggT E.P t = some false) (hk : k < es.length) (hf : f < sz) :
    Fixed E r ops Q i ((es.getD k []).getD f .junk) a st := by
  refine ⟨o, hi, fun a' rest hs hk' => ?_⟩
  have e : a'.ev E x = a.ev E x := same_get hs x (by rw [ho]; simp [Op.operands])
  exact AOps.cons hi hg (AOp.loadCell ho (by simp only [evU, e]; exact hx) (by simp only [evC, e]; exact hcs) hst hag hk hf hk')
def FxC (E : Env) (r : Option Nat) (ops : Array Oper) (Q : APost) (Kn : ANext) : List Nat → AA → St → Prop
  | [], a, st => Kn a st
  | i :: rest, a, st =>
    match ops[i]? with
    | none => False
    | some o =>
      match o.guard with
      | none =>
        match pureOp E a o.op with
        | some (c, v) => c ∧ FxC E r ops Q Kn rest (a.put o.dst v) st
        | none => ∃ v, Fixed E r ops Q i v a st ∧ Fx E r ops Q Kn rest (a.put o.dst v) st
      | some (j, want) =>
        match (ops[j]?).bind (·.dst) with
        | none => False
        | some d =>
          match agd (a.get d) want with
          | none => False
          | some g =>
            match pureOp E a o.op with
            | some (c, v) => (g = true → c) ∧ optC g v ∧ FxC E r ops Q Kn rest (a.put o.dst (optV g v)) st
            | none => ∃ v, Fixed E r ops Q i v a st ∧ Fx E r ops Q Kn rest (a.put o.dst v) st
theorem FxC_ok {Kn : ANext} : ∀ (l : List Nat) (a : AA) (st : St), FxC E r ops Q Kn l a st → Fx E r ops Q Kn l a st
  | [], a, st, h => h
  | i :: rest, a, st, h => by
    simp only [FxC] at h
    split at h
    · exact h.elim
    · rename_i o ho
      have hdst : (ops[i]?).bind (·.dst) = o.dst := by rw [ho]; rfl
      simp only [Fx, hdst]
      split at h
      · rename_i hg
        split at h
        · rename_i c v hp
          exact ⟨v, Fixed.pure ho hg hp h.1, FxC_ok rest _ st h.2⟩
        · exact h
      · rename_i j want hg
        split at h
        · exact h.elim
        · rename_i d hd
          split at h
          · exact h.elim
          · rename_i g hy
            split at h
            · rename_i c v hp
              exact ⟨optV g v, Fixed.guard_pure ho hg hd hy hp h.1 h.2.1, FxC_ok rest _ st h.2.2⟩
            · exact h
attribute [go_sem] FxC
end
end Go.Abs

/- THE ABSTRACT MEMORY (part 23): pointers seen without their type, functions without a body, a text made of bytes in place. -/
namespace Go.Abs
open Go.RowKit
section
variable {E : Env} {κ : K} {st : St} {w : World} {a : AA} {act : Act} {r : Option Nat} {Q : APost} {Kn : ANext} {o : Oper}
theorem AOp.ext {x : Operand} {f : FuncId} {args : Array Operand} {tys : Array TypeId} {v : AV} (ho : o.op = .call { callee := .value x, args := args, argTypes := tys }) (hx : evU E a x = .clo (.func f) [] []) (hcs : evCs E a (x :: args.toList))
    (hrun : ∀ κ w (cargs : Array Value), Rel E κ st w → VRs κ (args.toList.map (evU E a)) cargs.toList → ∃ cv, (callFunc f cargs).run E.P w = .ok (.value cv) w ∧ VR κ v cv) (hk : Kn (a.put o.dst v) st) : AOp E r o Kn Q a st := by
  refine AOp.of_value (s := Sem.halt .blocked) (fun c => by rw [ho]; simp) fun κ w act hR hA => ?_
  have hv := unO_ok (hA.ev hR x) hcs.1
  rw [show unO (a.ev E x) = evU E a x from rfl, hx] at hv
  simp only [VR, VRs] at hv
  obtain ⟨cfi, cca, hxe, hfi, hca⟩ := hv
  have h1 : cfi = #[] := by simpa using hfi
  have h2 : cca = #[] := by simpa using hca
  subst h1; subst h2
  have hargs := evsC_ok hR hA args.toList hcs.2
  obtain ⟨cv, hr, hcv⟩ := hrun κ w (args.map act.eval) hR (by simpa using hargs)
  refine ⟨cv, κ, v, st, w, ?_, K.Le.refl κ, hR, hcv, hk⟩
  simp [execOp, ho, resolve, hxe, Deferred.ofValue, invoke, hr]
theorem AOp.same {x y : Operand} {f : FuncId} {fn : Func} {tys : Array TypeId} (ho : o.op = .call { callee := .value x, args := #[y], argTypes := tys }) (hx : evU E a x = .clo (.func f) [] []) (hcs : evCs E a [x, y])
    (hf : E.P.funcs[f]? = some fn) (hname : (fn.name == "runtime.NumGoroutine") = false) (hb : fn.body.isNone = true) (hn : Extern.findNext fn = none) (he : Extern.find fn = some Extern.AbiNoEscape.same) (hk : Kn (a.put o.dst (evU E a y)) st) : AOp E r o Kn Q a st := by
  refine AOp.ext ho hx hcs (fun κ w cargs hR hv => ?_) hk
  simp only [List.map_cons, List.map_nil, VRs] at hv
  obtain ⟨cv, _, hc, hcv, rfl⟩ := hv
  have : cargs = #[cv] := Array.toList_inj.1 hc
  subst this
  exact ⟨cv, by rw [run_callFunc_extern hf hname hb hn he, Lib.run_noEscape]; rfl, hcv⟩
end
end Go.Abs

/- THE ABSTRACT MEMORY (part 24): a text made of bytes in place (unsafe.String): its block is given away; pointers held against one another. -/
namespace Go.Abs
open Go.RowKit
section
variable {E : Env} {κ : K} {st : St} {w w' : World} {a : AA} {act : Act} {r : Option Nat} {Q : APost} {Kn : ANext} {o : Oper}
end
end Go.Abs

/- THE ABSTRACT MEMORY (part 25): drawn regions with an operation that all others stand ahead of or behind. -/
namespace Go.Abs
open Go.RowKit
def direct (ops : Array Oper) (j : Nat) : List Nat :=
  match ops[j]? with
  | some o => (o.after.toList.filter fun e => Region.binds .any e).map (·.on)
  | none => []
def clos (ops : Array Oper) : Nat → Nat → List Nat
  | 0, _ => []
  | n + 1, j => direct ops j ++ (direct ops j).flatMap (clos ops n)
def bar (ops : Array Oper) (n i : Nat) : Bool :=
  (List.range ops.size).all fun k => k == i || (if k < i then (clos ops n i).contains k else (clos ops n k).contains i)
section
variable {E : Env} {r : Option Nat} {Q : APost} {ops : Array Oper}
def Down (ops : Array Oper) (listed : Array Bool) : Prop := ∀ k, listed.getD k false = true → ∀ i ∈ direct ops k, listed.getD i false = true
theorem clos_listed {listed : Array Bool} (hd : Down ops listed) : ∀ (n j : Nat), (∀ i ∈ direct ops j, listed.getD i false = true) → ∀ k ∈ clos ops n j, listed.getD k false = true
  | 0, _, _, k, hk => by cases hk
  | n + 1, j, hj, k, hk => by
    simp only [clos, List.mem_append, List.mem_flatMap] at hk
    rcases hk with hk | ⟨i, hi, hk⟩
    · exact hj k hk
    · exact clos_listed hd n i (fun m hm => hd i (hj i hi) m hm) k hk
def FxB (E : Env) (r : Option Nat) (ops : Array Oper) (Q : APost) (n : Nat) (Kn : ANext) : List Nat → AA → St → Prop
  | [], a, st => Kn a st
  | i :: l, a, st => (∃ v, Fixed E r ops Q i v a st ∧ FxB E r ops Q n Kn l (a.put ((ops[i]?).bind (·.dst)) v) st) ∨
      (bar ops n i = true ∧ ∃ o, ops[i]? = some o ∧ o.guard = none ∧ AOp E r o (FxB E r ops Q n Kn l) Q a st)
theorem AOp.monoK {o : Oper} {K1 K2 : ANext} {a : AA} {st : St} (h : AOp E r o K1 Q a st) (hk : ∀ a st, K1 a st → K2 a st) : AOp E r o K2 Q a st := by
  intro κ w act rd h1 h2 h3
  obtain ⟨q1, q2⟩ := h κ w act rd h1 h2 h3
  exact ⟨q1, uponIn_mono (fun act' w' ⟨κ', a', st', e1, e2, e3, e4⟩ => ⟨κ', a', st', e1, e2, e3, hk _ _ e4⟩) (fun _ _ _ h => h) q2⟩
theorem FxB.front {n : Nat} {Kn : ANext} {i : Nat} {oi : Oper} (hi : ops[i]? = some oi) : ∀ (xs ys : List Nat) (a : AA) (st : St), FxB E r ops Q n Kn (xs ++ i :: ys) a st → (∀ x ∈ xs, ∀ o, ops[x]? = some o → o.apart ops oi = true) → (∀ x ∈ xs, bar ops n x = false) → (bar ops n i = true → xs = []) →
    (∃ v, Fixed E r ops Q i v a st ∧ FxB E r ops Q n Kn (xs ++ ys) (a.put oi.dst v) st) ∨ (bar ops n i = true ∧ xs = [] ∧ oi.guard = none ∧ AOp E r oi (FxB E r ops Q n Kn ys) Q a st)
  | [], ys, a, st, h, _, _, _ => by
    rcases h with ⟨v, h1, h2⟩ | ⟨hb, o, ho, hg, h⟩
    · rw [hi] at h2; exact .inl ⟨v, h1, h2⟩
    · rw [hi] at ho; cases ho
      exact .inr ⟨hb, rfl, hg, h⟩
  | x :: xs, ys, a, st, h, hx, hxb, hib => by
    rcases h with ⟨u, h1, h2⟩ | ⟨hb, _⟩
    · have h1' := h1
      obtain ⟨ox, hox, _⟩ := h1'
      obtain ⟨p1, p2, p3⟩ := Oper.apart_spec (hx x (by simp) ox hox)
      rw [hox] at h2
      rcases FxB.front hi xs ys _ st h2 (fun y hy => hx y (by simp [hy])) (fun y hy => hxb y (by simp [hy])) (fun hb => by cases hib hb) with ⟨v, g1, g2⟩ | ⟨hb, _, _, _⟩
      · refine .inl ⟨v, g1.congr hi fun t ht => (get_put_ne fun d hd e => p1 d hd (e ▸ ht)).symm, .inl ⟨u, h1.congr hox fun t ht => get_put_ne fun d hd e => p3 d hd (e ▸ ht), ?_⟩⟩
        rw [hox]
        show FxB E r ops Q n Kn (xs ++ ys) ((a.put oi.dst v).put ox.dst u) st
        rw [← put_comm a u v p2]
        exact g2
      · cases hib hb
    · rw [hxb x (by simp)] at hb; cases hb
theorem AOps.drawnB {md : Region.Mode} {n : Nat} {Kn : ANext} (hK : ∀ a st, Kn a st → Q .normal a st) (hl : Live md ops) (ho : Ordered ops) : ∀ (fuel t : Nat) (listed : Array Bool) (a : AA) (st : St), listed.size = ops.size → Down ops listed → (left listed ops.size).length ≤ fuel →
    FxB E r ops Q n Kn (left listed ops.size) a st → AOps E r ops Q (Region.linearise.go md ops fuel t listed []) a st
  | 0, t, listed, a, st, hs, hdn, hf, h => by
    have : left listed ops.size = [] := List.eq_nil_of_length_eq_zero (by omega)
    rw [this] at h
    exact AOps.nil (hK _ _ h)
  | fuel + 1, t, listed, a, st, hs, hdn, hf, h => by
    have hdone : Region.ready md ops listed = [] → left listed ops.size = [] := fun hr => by
      apply List.eq_nil_iff_forall_not_mem.2
      intro i hi
      simp only [left, List.mem_filter, Bool.not_eq_true'] at hi
      exact hl listed hs ⟨i, hi.2⟩ hr
    have hgo : Region.linearise.go md ops (fuel + 1) t listed [] = match (Region.ready md ops listed)[t % (Region.ready md ops listed).length]? with
        | some i => i :: Region.linearise.go md ops fuel (t / (Region.ready md ops listed).length) (listed.setIfInBounds i true) []
        | .none => [] := by
      simp only [Region.linearise.go, Region.ready]
      split
      · rename_i heq
        rw [linearise_go_acc, heq]; rfl
      · rename_i heq
        rw [heq]; rfl
    rw [hgo]
    split
    · rename_i i hi
      have hmem := List.mem_of_getElem? hi
      obtain ⟨hn, oi, hoi, hed⟩ := mem_ready.1 hmem
      have hlt : i < ops.size := (Array.getElem?_eq_some_iff.1 hoi).1
      obtain ⟨xs, ys, e1, e2, e3⟩ := filter_split (p := fun i => !listed.getD i true) (l := List.range ops.size) List.pairwise_lt_range (List.mem_range.2 hlt) (by simp [hn])
      have e4 : left (listed.setIfInBounds i true) ops.size = xs ++ ys := by
        rw [← e3, left]
        refine List.filter_congr fun j hj => ?_
        by_cases hji : j = i
        · subst hji; simp [hs, hlt]
        · rw [getD_set_ne true (Ne.symm hji)]; simp [hji]
      have hdir : ∀ j ∈ direct ops i, listed.getD j false = true := fun j hj => by
        simp only [direct, hoi, List.mem_map, List.mem_filter] at hj
        obtain ⟨e, ⟨he, hb⟩, rfl⟩ := hj
        exact hed e (by simpa using he) (binds_any hb)
      have hdn' : Down ops (listed.setIfInBounds i true) := fun k hk j hj => by
        by_cases hki : k = i
        · subst hki; exact getD_set_true (hdir j hj)
        · rw [getD_set_ne false (Ne.symm hki)] at hk
          exact getD_set_true (hdn k hk j hj)
      have hun : ∀ x ∈ xs, listed.getD x false = false := fun x hx => by
        have h2 := (e2 x hx).2
        have : x < listed.size := by rw [hs]; have := (e2 x hx).1; omega
        simpa [this] using h2
      rw [left, e1] at h
      have hlen' : (xs ++ ys).length ≤ fuel := by
        rw [left, e1] at hf
        simp only [List.length_append, List.length_cons] at hf ⊢
        omega
      rcases FxB.front hoi xs ys a st h (fun x hx o hox => by
        rcases ho x i o oi (e2 x hx).1 hox hoi with q | ⟨e, he, rfl, hb⟩
        · exact q
        · have := hed e he (binds_any hb)
          rw [hun e.on hx] at this; cases this) (fun x hx => by
        cases hb : bar ops n x with
        | false => rfl
        | true =>
          exfalso
          have h1 := List.all_eq_true.1 hb i (List.mem_range.2 hlt)
          have hxi := (e2 x hx).1
          simp only [Bool.or_eq_true, beq_iff_eq, show ¬ i < x from by omega, if_false] at h1
          rcases h1 with h1 | h1
          · omega
          · have := clos_listed hdn n i hdir x (by simpa using h1)
            rw [hun x hx] at this; cases this) (fun hb => by
        cases hxs : xs with
        | nil => rfl
        | cons x l =>
          exfalso
          have hx : x ∈ xs := by rw [hxs]; simp
          have hxi := (e2 x hx).1
          have h1 := List.all_eq_true.1 hb x (List.mem_range.2 (by omega))
          simp only [Bool.or_eq_true, beq_iff_eq, hxi, if_true] at h1
          rcases h1 with h1 | h1
          · omega
          · have := clos_listed hdn n i hdir x (by simpa using h1)
            rw [hun x hx] at this; cases this) with ⟨v, g1, g2⟩ | ⟨_, rfl, hg, g⟩
      · obtain ⟨o', ho', g1⟩ := g1
        rw [hoi] at ho'; cases ho'
        exact g1 a _ (fun _ _ => rfl) (AOps.drawnB hK hl ho fuel _ _ _ _ (by simpa using hs) hdn' (by rw [e4]; exact hlen') (by rw [e4]; exact g2))
      · refine AOps.cons hoi hg (g.monoK fun a' st' h' => AOps.drawnB hK hl ho fuel _ _ _ _ (by simpa using hs) hdn' (by rw [e4]; exact hlen') (by rw [e4]; exact h'))
    · rename_i hnone
      have hr : Region.ready md ops listed = [] := by
        cases hc : Region.ready md ops listed with
        | nil => rfl
        | cons x l =>
          exfalso
          rw [hc] at hnone
          have : t % (x :: l).length < (x :: l).length := Nat.mod_lt _ (by simp)
          rw [List.getElem?_eq_getElem this] at hnone
          first | exact hnone _ rfl | cases hnone
      rw [hdone hr] at h
      exact AOps.nil (hK _ _ h)
theorem AW.drawnB {id : Nat} {a : AA} {st : St} (n : Nat) (p : List Nat) (hb : drawnB ops p = true)
    (h : ∀ (Q' : APost) (Kn : ANext), (∀ x a st, Q x a st → Q' x a st) → (∀ a st, Q .normal a st → Kn a st) → (∀ a st, Kn a st → Q' .normal a st) → FxB E r ops Q' n Kn (List.range ops.size) a st) : AW E r (.region id ops true) Q a st := by
  simp only [Go.Abs.drawnB, Bool.and_eq_true] at hb
  obtain ⟨⟨⟨⟨b1, b2⟩, b3⟩, b4⟩, b5⟩ := hb
  have hr : (List.range ops.size).all (fun i => (List.range ops.size).contains i) = true := by simp
  have hl : ∀ md, Live md ops := fun md => by
    cases md
    · exact live_of _ b2 hr
    · exact live_of _ b3 b4
    · exact live_of _ b1 hr
  have h0 := h Q (Q .normal) (fun _ _ _ h => h) (fun _ _ h => h) (fun _ _ h => h)
  have hleft : left (Array.replicate ops.size false) ops.size = List.range ops.size := by
    rw [left, List.filter_eq_self]
    intro i hi
    simp [List.mem_range.1 hi]
  have hgo : ∀ md t, AOps E r ops Q (Region.linearise md ops t) a st := fun md t =>
    AOps.drawnB (fun _ _ h => h) (hl md) (ordered_of b5) ops.size t _ a st (by simp) (fun k hk => by exfalso; by_cases hk2 : k < ops.size <;> simp [Array.getElem?_replicate, hk2] at hk) (by rw [hleft]; simp) (by rw [hleft]; exact h0)
  refine AW.region_draw fun t => ?_
  unfold Region.schedule
  split
  · exact hgo _ _
  · exact hgo _ _
end
end Go.Abs

/- THE ABSTRACT MEMORY (part 26): fields, by equations. -/
namespace Go.Abs
open Go.RowKit
theorem fieldAddr_ptr {P : Program} {t : TypeId} {f off n : Nat} (h : fldOf P t f = some (off, n + 1)) (id g i c : Nat) : aFieldAddr P t (.ptr id g i c) f = some (True, .ptr id g i (c + off)) := by
  unfold fldOf at h
  split at h
  · rename_i fs hu
    cases hf : fs[f]? with
    | none => simp [hf] at h
    | some fd =>
      simp only [hf, Option.bind_some, Option.map_eq_some_iff, Prod.mk.injEq] at h
      obtain ⟨m, hm, rfl, rfl⟩ := h
      simp only [aFieldAddr, hu, hf, hm, Option.some.injEq, Prod.mk.injEq, and_true]
      simp
  · cases h
theorem fieldAddr_fptr {P : Program} {t : TypeId} {f off n : Nat} (h : fldOf P t f = some (off, n + 1)) (cs : List AV) : aFieldAddr P t (.fptr cs) f = some (off ≤ cs.length, .fptr (cs.drop off)) := by
  unfold fldOf at h
  split at h
  · rename_i fs hu
    cases hf : fs[f]? with
    | none => simp [hf] at h
    | some fd =>
      simp only [hf, Option.bind_some, Option.map_eq_some_iff, Prod.mk.injEq] at h
      obtain ⟨m, hm, rfl, rfl⟩ := h
      simp only [aFieldAddr, hu, hf, hm, Option.some.injEq, Prod.mk.injEq, and_true]
      simp
  · cases h
def fldT (P : Program) (t : TypeId) (f : Nat) : Option (TypeId × Nat) :=
  match P.underlying t with
  | some (.struct fs) => (fs[f]?).map fun fd => (fd.type, fd.offset)
  | _ => none
theorem field_agg {P : Program} {t u : TypeId} {f off : Nat} (h : fldT P t f = some (u, off)) (cs : List AV) : aField P t (.agg cs) f = aPart P u cs off := by
  unfold fldT at h
  split at h
  · rename_i fs hu
    cases hf : fs[f]? with
    | none => simp [hf] at h
    | some fd =>
      simp only [hf, Option.map_some, Option.some.injEq, Prod.mk.injEq] at h
      obtain ⟨rfl, rfl⟩ := h
      simp only [aField, hu, hf]
  · cases h
end Go.Abs

/- THE ABSTRACT MEMORY (part 22): contracts of the kit (Calls, of the world itself) as contracts here. -/
namespace Go.Abs
open Go.RowKit
section
variable {E : Env} {κ : K} {st : St} {w w' : World}
theorem Rel.below (hR : Rel E κ st w) (hb : Below w.heap.size w w') : Rel E κ st w' :=
  { dom := fun id B h => by
      obtain ⟨L, h1, h2, h3, h4⟩ := hR.dom id B h
      exact ⟨L, h1, h2.keep (K.Le.refl κ) (hb.block _ h4), h3, Nat.lt_of_lt_of_le h4 hb.size⟩
    inj := hR.inj
    fzw := fun b o v h => by
      have h1 := hR.fzw b o v h
      have hlt : b < w.heap.size := by
        rcases Nat.lt_or_ge b w.heap.size with h2 | h2
        · exact h2
        · simp [World.cell?, Array.getElem?_eq_none h2] at h1
      rw [hb.cell (p := ⟨b, o, none⟩) hlt]; exact h1
    sep := hR.sep
    bnd := hR.bnd
    bel := hR.bel.trans (hb.mono hR.n0)
    n0 := Nat.le_trans hR.n0 hb.size
    glob := hR.glob
    wf := hR.wf }
theorem ACalls.of_calls {f : FuncId} {args : List AV} {cargs : Array Value} {v : AV} {cv : Value} (hargs : ∀ κ c, VRs κ args c → c = cargs.toList) (hv : ∀ κ, VR κ v cv)
    (h : ∀ w, Calls E.P f cargs w fun e w' => e = .returned cv ∧ Below w.heap.size w w') : ACalls E f args st fun e st' => st' = st ∧ e = .ret v := by
  intro κ w cs hR ha
  have e : cs = cargs := by
    have := hargs κ _ ha
    exact Array.toList_inj.1 this
  subst e
  refine CallsIn.mono (callsIn_wide.2 (h w)) ?_
  rintro e w' ⟨rfl, hb⟩
  exact ⟨κ, .ret v, st, K.Le.refl κ, hR.below hb, ⟨cv, rfl, hv κ⟩, rfl, rfl⟩
end
end Go.Abs
