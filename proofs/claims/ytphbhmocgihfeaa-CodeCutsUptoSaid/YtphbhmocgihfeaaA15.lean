/- THE ABSTRACT MEMORY (part 15): a slice of parts; texts and bytes; structs from parts. -/
import Derived.Test.YtphbhmocgihfeaaA14
namespace Go.Abs
open Go.RowKit
set_option linter.unusedSectionVars false
set_option linter.unusedVariables false
set_option linter.unusedSimpArgs false

def bytesE (s : List UInt8) : List (List AV) := s.map fun b => [.int .u8 (b.toNat : Int)]
@[simp] theorem bytesE_length (s : List UInt8) : (bytesE s).length = s.length := by simp [bytesE]
theorem bytesE_one (s : List UInt8) : ∀ e ∈ bytesE s, ∀ c ∈ e, isCell c = true := by
  intro e he c hc
  simp only [bytesE, List.mem_map] at he
  obtain ⟨b, _, rfl⟩ := he
  simp at hc; subst hc; rfl
theorem bytesE_append (s t : List UInt8) : bytesE (s ++ t) = bytesE s ++ bytesE t := by simp [bytesE]

/-- The parts of a slice: each in its place. -/
def aParts (E : Env) (a : AA) : Nat → List (Nat × Operand) → Option (List (List AV))
  | _, [] => some []
  | k, (i, x) :: rest =>
    if i = k then
      match aCells (evU E a x), aParts E a (k + 1) rest with
      | some c, some cs => some (c :: cs)
      | _, _ => none
    else none
def partsC (E : Env) (a : AA) : List (Nat × Operand) → Prop
  | [] => True
  | (_, x) :: rest => evC E a x ∧ partsC E a rest

section
variable {E : Env} {κ : K} {st : St} {w : World} {a : AA} {act : Act} {r : Option Nat} {Q : APost} {Kn : ANext} {o : Oper}

theorem zipIdx_setArr (off : Nat) : ∀ (l : List Value) (k : Nat) (cells : Array Value), (l.zipIdx k).foldl (fun cs (c, j) => cs.setIfInBounds (off + j) c) cells = setArr cells (off + k) l
  | [], k, cells => rfl
  | v :: r, k, cells => by
    simp only [List.zipIdx_cons, List.foldl_cons, setArr]
    rw [zipIdx_setArr off r (k + 1)]
    rfl

def PRs (κ : K) (sz : Nat) : Nat → List (Nat × Value) → List (List AV) → Prop
  | _, [], es => es = []
  | k, (i, v) :: ps, es => i = k ∧ ∃ e es', es = e :: es' ∧ e.length = sz ∧ VRs κ e v.cells.toList ∧ PRs κ sz (k + 1) ps es'

theorem fill_ok {sz N : Nat} : ∀ (ps : List (Nat × Value)) (es done : List (List AV)) (cells : Array Value), PRs κ sz done.length ps es → cells.size = N * sz → done.length + es.length ≤ N → VRE κ (fun o => cells[o]?) sz done 0 →
    ∃ cells', Instr.fill (fun i => some (i * sz, sz)) cells ps = some cells' ∧ cells'.size = N * sz ∧ VRE κ (fun o => cells'[o]?) sz (done ++ es) 0
  | [], es, done, cells, h, hs, hn, hE => by simp only [PRs] at h; subst h; exact ⟨cells, rfl, hs, by simpa using hE⟩
  | (i, v) :: ps, es, done, cells, h, hs, hn, hE => by
    simp only [PRs] at h
    obtain ⟨rfl, e, es', rfl, h1, h2, h3⟩ := h
    have hl := VRs_len h2
    simp only [Array.length_toList] at hl
    have hb : done.length * sz + sz ≤ N * sz := by
      have : (done.length + 1) * sz ≤ N * sz := Nat.mul_le_mul_right _ (by simp only [List.length_cons] at hn; omega)
      rw [Nat.add_mul] at this; omega
    have hfill : Instr.fill (fun i => some (i * sz, sz)) cells ((done.length, v) :: ps) = Instr.fill (fun i => some (i * sz, sz)) (setArr cells (done.length * sz) v.cells.toList) ps := by
      have hz := zipIdx_setArr (done.length * sz) v.cells.toList 0 cells
      simp only [Nat.add_zero] at hz
      simp only [Instr.fill]
      rw [if_neg (by simp; omega)]
      congr 1
      rw [← hz, ← Array.foldl_toList, Array.toList_zipIdx]
    rw [hfill]
    have := fill_ok ps es' (done ++ [e]) (setArr cells (done.length * sz) v.cells.toList) (by simpa using h3) (by rw [setArr_size]; exact hs) (by simp only [List.length_cons, List.length_append, List.length_nil] at hn ⊢; omega) (by
      rw [VRE_iff] at hE ⊢
      intro i hi
      simp only [List.length_append, List.length_cons, List.length_nil] at hi
      simp only [Nat.zero_add]
      by_cases hi2 : i < done.length
      · obtain ⟨q1, q2⟩ := hE i hi2
        have : (done ++ [e]).getD i [] = done.getD i [] := by simp [List.getD, List.getElem?_append_left hi2]
        rw [this]
        refine ⟨q1, ?_⟩
        rw [VRF_iff] at q2 ⊢
        intro j hj
        obtain ⟨u, g1, g2⟩ := q2 j hj
        refine ⟨u, ?_, g2⟩
        simp only [Nat.zero_add] at g1
        rw [← g1]
        refine setArr_out _ _ _ _ (.inl ?_)
        have : (i + 1) * sz ≤ done.length * sz := Nat.mul_le_mul_right _ hi2
        rw [Nat.add_mul] at this; omega
      · have hie : i = done.length := by omega
        subst hie
        have : (done ++ [e]).getD done.length [] = e := by simp [List.getD]
        rw [this]
        exact ⟨h1, VRs_VRF h2 fun j u hu => by
          have hj := (List.getElem?_eq_some_iff.1 hu).1
          rw [← hu]
          exact setArr_in _ _ _ _ (by simp; omega) hj⟩)
    simpa using this

theorem parts_ok (hR : Rel E κ st w) (hA : AR κ a act) {sz : Nat} : ∀ (ps : List (Nat × Operand)) (k : Nat) {es : List (List AV)}, aParts E a k ps = some es → partsC E a ps → (∀ e ∈ es, e.length = sz) →
    PRs κ sz k (ps.map fun (i, x) => (i, act.eval x)) es ∧ es.length = ps.length
  | [], k, es, h, _, _ => by simp only [aParts, Option.some.injEq] at h; subst h; exact ⟨rfl, rfl⟩
  | (i, x) :: ps, k, es, h, hc, hsz => by
    simp only [aParts] at h
    split at h <;> first | cases h | skip
    rename_i hik
    split at h <;> first | cases h | skip
    rename_i c cs h1 h2
    obtain ⟨hc1, hc2⟩ := hc
    obtain ⟨q1, q2⟩ := parts_ok hR hA ps (k + 1) h2 hc2 (fun e he => hsz e (by simp [he]))
    refine ⟨?_, by simp [q2]⟩
    simp only [List.map_cons, PRs]
    exact ⟨hik, c, cs, rfl, hsz c (by simp), aCells_ok h1 (unO_ok (hA.ev hR x) hc1), q1⟩

/-- '[]T{..}'. -/
theorem AOp.buildSlice {t e : TypeId} {len sz : Nat} {parts : Array (Nat × Operand)} {es : List (List AV)} (ho : o.op = .buildSlice t len parts) (ht : E.P.underlying t = some (.slice e)) (hz : tsz E.P e = some sz) (hzz : hasZero E.P e = some sz)
    (hc : partsC E a parts.toList) (hp : aParts E a 0 parts.toList = some es) (hes : ∀ e ∈ es, e.length = sz) (hlen : es.length = len) (hpos : 0 < sz) (hlim : len * sz ≤ 16777216)
    (h : ∀ id, st id = none → Kn (a.put o.dst (.arr id 0 sz 0 len)) (st.set id (.cells 0 sz es))) : AOp E r o Kn Q a st := by
  refine AOp.of_value (s := Sem.halt .blocked) (fun c => by rw [ho]; simp) fun κ w act hR hA => ?_
  obtain ⟨id, hid1, hid2⟩ := hR.fresh
  obtain ⟨i, zv, hi, hizero, hzsz⟩ := zero_info hzz
  have hisz : i.size = sz := by simp [tsz, hi] at hz; exact hz
  obtain ⟨q1, q2⟩ := parts_ok hR hA parts.toList 0 hp hc hes
  let zero : Array Value := if len * sz = 0 then #[] else zv.cells
  obtain ⟨cells', hf1, hf2, hf3⟩ := fill_ok (κ := κ) (N := len) (sz := sz) (parts.toList.map fun (i, x) => (i, act.eval x)) es [] ((Array.range (len * sz)).map (fun j => zero[j % zero.size]!)) (by simpa using q1) (by simp) (by simpa using Nat.le_of_eq hlen) (by simp [VRE])
  have hmax : len ≤ maxLen := by
    have : len * 1 ≤ len * sz := Nat.mul_le_mul_left _ (by omega)
    simp only [maxLen]; omega
  have hrun : (execOp act.eval o).run E.P w = .ok (.value (.slice (some ⟨w.heap.size, 0, none⟩) len len)) (w.alloc (.cells cells' e)) := by
    have hlim' : ¬ (16777216 < len * sz) := by omega
    have hf1' : Instr.fill (fun i => some (i * sz, sz)) ((Array.range (len * sz)).map (fun j => zero[j % zero.size]!)) (parts.map fun (i, x) => (i, act.eval x)).toList = some cells' := by simpa using hf1
    have h24 : ¬ (len * sz > 2 ^ 24) := by omega
    have hpm : (parts.map fun x => (x.1, act.eval x.2)).toList = parts.toList.map fun (i, x) => (i, act.eval x) := by simp
    by_cases h0 : len * sz = 0
    · have hz0 : zero = #[] := by simp only [zero, if_pos h0]
      rw [hz0] at hf1
      simp only [execOp, ho, Instr.buildSlice, Sem.run_bind, run_underlying ht, run_sz hz, Result.andThen, if_neg h24, if_pos h0, Sem.run_pure, hpm, hf1, newRow, newObj, Sem.run]
      rfl
    · have hz0 : zero = zv.cells := by simp only [zero, if_neg h0]
      rw [hz0] at hf1
      simp only [execOp, ho, Instr.buildSlice, Sem.run_bind, run_underlying ht, run_sz hz, Result.andThen, if_neg h24, if_neg h0, zeroValue, typeInfo, run_program, hi, hizero, Sem.run_pure, hpm, hf1, newRow, newObj, Sem.run]
      rfl
  · obtain ⟨hR', hle⟩ := hR.newCells hid1 (sz := sz) (cap := len) (es := es) (c := cells') (t := e) (by omega) hmax (by rw [hf2]; exact Nat.le_refl _) (by simpa using hf3)
    refine ⟨_, _, .arr id 0 sz 0 len, _, _, hrun, hle, hR', ?_, h id hid2⟩
    simp only [VR, K.set_same, Option.some.injEq]
    exact ⟨_, _, _, rfl, ⟨rfl, Nat.le_refl _⟩, rfl, rfl, Nat.le_refl _, fun _ => .inl ⟨by simp, by simp, by simp⟩⟩

theorem bytes_VRE (κ : K) (e : TypeId) (s : List UInt8) (w : World) : VRE κ (fun o => (Lib.bytesCells w e ⟨s.toArray⟩)[o]?) 1 (bytesE s) 0 := by
  rw [VRE_iff]
  intro i hi
  rw [bytesE_length] at hi
  have hg : (bytesE s).getD i [] = [.int .u8 ((s.getD i 0).toNat : Int)] := by
    simp [bytesE, List.getD, List.getElem?_eq_getElem hi]
  rw [hg]
  refine ⟨rfl, ?_⟩
  simp only [VRF, and_true, VR]
  refine ⟨_, ?_, rfl⟩
  simp [Lib.bytesCells, Array.getElem?_append, List.getD, hi]

/-- '[]byte(s)'. -/
theorem AOp.toBytes {src dst e : TypeId} {x : Operand} {u : TypeDesc} {s : List UInt8} (ho : o.op = .convert src dst x) (hcs : evC E a x) (hu : E.P.underlying src = some u) (hd : E.P.underlying dst = some (.slice e)) (he : E.P.underlying e = some (.int .u8))
    (hx : evU E a x = .str s) (hlim : s.length ≤ maxLen) (h : ∀ id, st id = none → Kn (a.put o.dst (.arr id 0 1 0 s.length)) (st.set id (.cells 0 1 (bytesE s)))) : AOp E r o Kn Q a st := by
  refine AOp.of_value (s := Sem.halt .blocked) (fun c => by rw [ho]; simp) fun κ w act hR hA => ?_
  obtain ⟨id, hid1, hid2⟩ := hR.fresh
  have hv := unO_ok (hA.ev hR x) hcs
  rw [show unO (a.ev E x) = evU E a x from rfl, hx] at hv
  simp only [VR] at hv
  have hrun := Lib.run_convert_string_bytes (P := E.P) w src dst e ⟨s.toArray⟩ hu hd he
  have hsz : (⟨s.toArray⟩ : ByteArray).size = s.length := by simp [ByteArray.size]
  have hge := grownCap_ge w s.length 0 e
  have hcm : grownCap w s.length 0 e ≤ maxLen := grownCap_le_maxLen w _ 0 e hlim
  have hcells : (Lib.bytesCells w e ⟨s.toArray⟩).size = grownCap w s.length 0 e := by
    simp [Lib.bytesCells, hsz]; omega
  let L' : Loc := ⟨0, w.heap.size, grownCap w s.length 0 e, 1⟩
  have hle : ∀ L0, κ.loc id = some L0 → L0.gen ≤ L'.gen ∧ (L'.gen = L0.gen → L' = L0) ∧ L'.sz = L0.sz := fun L0 h0 => by rw [hid1] at h0; cases h0
  have hK : K.Le κ (κ.set id L') := K.le_set hle
  have hgr : w.grownBy (Lib.bytesWorld w e ⟨s.toArray⟩) (some w.heap.size) :=
    ⟨rfl, rfl, rfl, by rw [Lib.bytesWorld_size]; omega, fun k hk _ => Lib.bytesWorld_at_old w e _ k hk⟩
  have hR' : Rel E (κ.set id L') (st.set id (.cells 0 1 (bytesE s))) (Lib.bytesWorld w e ⟨s.toArray⟩) := by
    refine hR.put hle hgr ?_ (by rw [Lib.bytesWorld_size]; simp [L']) (.inr (Nat.le_refl _))
    refine ⟨rfl, rfl, by simp [L', hge], hcm, _, e, _, Lib.bytesWorld_at_new w e _, by rw [hcells]; simp [L'], ?_, bytes_VRE _ e s w⟩
    intro o' ho'
    rw [hcells]
    simp only [L', Nat.mul_one] at ho'
    simp; omega
  refine ⟨_, _, .arr id 0 1 0 s.length, _, _, by simp [execOp, ho, hv, hrun]; rfl, hK, hR', ?_, h id hid2⟩
  simp only [VR, K.set_same, Option.some.injEq]
  exact ⟨_, _, _, by rw [hsz], ⟨rfl, hge⟩, rfl, rfl, Nat.le_refl _, fun _ => .inl ⟨by simp [L'], by simp [L'], by simpa [L'] using hge⟩⟩

theorem VRs_bytes : ∀ {s : List UInt8} {vs : List Value}, VRs κ (bytesE s).flatten vs → vs = (s.map fun b => ((b.toNat : Nat) : Int)).map (Value.int .u8)
  | [], vs, h => by simpa [bytesE, VRs] using h
  | b :: s, vs, h => by
    simp only [bytesE, List.map_cons, List.flatten_cons, List.cons_append, List.nil_append, VRs, VR] at h
    obtain ⟨v, vs', rfl, rfl, h2⟩ := h
    simp only [List.map_cons]
    rw [← VRs_bytes h2]

theorem foldl_push (s : List UInt8) : ∀ acc : ByteArray, (s.map fun b => ((b.toNat : Nat) : Int)).foldl (fun r n => r.push (UInt8.ofNat n.toNat)) acc = acc ++ ⟨s.toArray⟩ := by
  induction s with
  | nil =>
    intro acc
    have : ∀ x y : ByteArray, x.data.toList = y.data.toList → x = y := fun x y e => by cases x; cases y; simp at e; simp [e]
    apply this
    rw [Joins.data_append]
    simp
  | cons b s ih =>
    intro acc
    simp only [List.map_cons, List.foldl_cons, ih]
    have : ∀ x y : ByteArray, x.data.toList = y.data.toList → x = y := fun x y e => by cases x; cases y; simp at e; simp [e]
    apply this
    rw [Joins.data_append, Joins.data_append]
    simp [ByteArray.push]

/-- 'string(b)'. -/
theorem AOp.toStr {src dst e : TypeId} {x : Operand} {s : List UInt8} (ho : o.op = .convert src dst x) (hcs : evC E a x) (hs : E.P.underlying src = some (.slice e)) (hd : E.P.underlying dst = some .string) (he : E.P.underlying e = some (.int .u8))
    (hx : (evU E a x = .nils ∧ s = []) ∨ (aElems st (evU E a x) = some (bytesE s) ∧ aSz (evU E a x) = some 1)) (h : Kn (a.put o.dst (.str s)) st) : AOp E r o Kn Q a st := by
  refine AOp.of_value (s := Sem.halt .blocked) (fun c => by rw [ho]; simp) fun κ w act hR hA => ?_
  have hv := unO_ok (hA.ev hR x) hcs
  rw [show unO (a.ev E x) = evU E a x from rfl] at hv
  rcases hx with ⟨hx, rfl⟩ | ⟨hx, hx2⟩
  · rw [hx] at hv
    simp only [VR] at hv
    refine ⟨.string ⟨#[]⟩, κ, .str [], st, w, ?_, K.Le.refl κ, hR, by simp [VR], h⟩
    simp [execOp, ho, hv, run_convert_bytes_string w src dst e none 0 0 hs he hd, Conv.bytesToString]
    rfl
  · obtain ⟨_, ad, c, vs, hye, hnl, hnv, hnc⟩ := elems_ok hR hx hx2 hv
    have hvs := VRs_bytes hnv
    have hload := run_loadCells_list (P := E.P) w ad vs hnc
    rw [hnl, Nat.mul_one] at hload
    refine ⟨.string ⟨s.toArray⟩, κ, .str s, st, w, ?_, K.Le.refl κ, hR, by simp [VR], h⟩
    have hb := run_bytesToString (P := E.P) w ad (bytesE s).length c (s.map fun b => ((b.toNat : Nat) : Int)) (by rw [hload, hvs])
    rw [foldl_push] at hb
    simp [execOp, ho, hye, run_convert_bytes_string w src dst e _ _ _ hs he hd]
    rw [show s.length = (bytesE s).length from by simp, hb]
    have : ∀ x y : ByteArray, x.data.toList = y.data.toList → x = y := fun x y e => by cases x; cases y; simp at e; simp [e]
    have h0 : ByteArray.empty ++ (⟨s.toArray⟩ : ByteArray) = ⟨s.toArray⟩ := by
      apply this; rw [Joins.data_append]; simp
    rw [h0]
    rfl

end
end Go.Abs
