/- THE ABSTRACT MEMORY (part 6): what each operation that only reckons yields is what the machine yields: the rest. -/
import Derived.Test.YtphbhmocgihfeaaA5
namespace Go.Abs
open Go.RowKit
set_option linter.unusedSectionVars false
set_option linter.unusedVariables false
set_option linter.unusedSimpArgs false

section
variable {κ : K} {w : World} {P : Program}

theorem VRs_len : ∀ {as : List AV} {vs : List Value}, VRs κ as vs → vs.length = as.length
  | [], _, h => by simp only [VRs] at h; simp [h]
  | a :: as, _, h => by simp only [VRs] at h; obtain ⟨v, vs, rfl, _, h2⟩ := h; simp [VRs_len h2]
theorem VRs_get : ∀ {as : List AV} {vs : List Value} (_ : VRs κ as vs) {i : Nat} (_ : i < as.length), ∃ v, vs[i]? = some v ∧ VR κ (as.getD i .junk) v
  | [], _, _, i, hi => by simp at hi
  | a :: as, _, h, i, hi => by
    simp only [VRs] at h
    obtain ⟨v, vs, rfl, h1, h2⟩ := h
    cases i with
    | zero => exact ⟨v, rfl, h1⟩
    | succ i => exact VRs_get h2 (i := i) (by simpa using hi)
theorem VRs_drop : ∀ (n : Nat) {as : List AV} {vs : List Value}, VRs κ as vs → VRs κ (as.drop n) (vs.drop n)
  | 0, _, _, h => h
  | n + 1, [], _, h => by simp only [VRs] at h; subst h; simp [VRs]
  | n + 1, a :: as, _, h => by simp only [VRs] at h; obtain ⟨v, vs, rfl, _, h2⟩ := h; exact VRs_drop n h2
theorem VRs_take : ∀ (n : Nat) {as : List AV} {vs : List Value}, VRs κ as vs → VRs κ (as.take n) (vs.take n)
  | 0, _, _, h => by simp [VRs]
  | n + 1, [], _, h => by simp only [VRs] at h; subst h; simp [VRs]
  | n + 1, a :: as, _, h => by
    simp only [VRs] at h; obtain ⟨v, vs, rfl, h1, h2⟩ := h
    simp only [List.take_succ_cons, VRs]
    exact ⟨v, _, rfl, h1, VRs_take n h2⟩
theorem VRs_append : ∀ {as bs : List AV} {vs ws : List Value}, VRs κ as vs → VRs κ bs ws → VRs κ (as ++ bs) (vs ++ ws)
  | [], _, _, _, h, h' => by simp only [VRs] at h; subst h; exact h'
  | a :: as, _, _, _, h, h' => by
    simp only [VRs] at h; obtain ⟨v, vs, rfl, h1, h2⟩ := h
    simp only [List.cons_append, VRs]
    exact ⟨v, _, rfl, h1, VRs_append h2 h'⟩

theorem VRF_get {rd : Nat → Option Value} : ∀ {cs : List AV} {o : Nat} (_ : VRF κ rd cs o) {i : Nat} (_ : i < cs.length), ∃ v, rd (o + i) = some v ∧ VR κ (cs.getD i .junk) v
  | [], _, _, i, hi => by simp at hi
  | a :: as, o, h, i, hi => by
    simp only [VRF] at h
    obtain ⟨⟨v, h1, h2⟩, h3⟩ := h
    cases i with
    | zero => exact ⟨v, h1, h2⟩
    | succ i =>
      obtain ⟨v, h4, h5⟩ := VRF_get h3 (i := i) (by simpa using hi)
      exact ⟨v, by rw [← h4]; congr 1; omega, h5⟩
theorem VRF_drop {rd : Nat → Option Value} : ∀ (n : Nat) {cs : List AV} {o : Nat}, VRF κ rd cs o → n ≤ cs.length → VRF κ rd (cs.drop n) (o + n)
  | 0, _, _, h, _ => h
  | n + 1, [], _, h, hn => by simp at hn
  | n + 1, a :: as, o, h, hn => by
    simp only [VRF] at h
    have := VRF_drop n h.2 (by simpa using hn)
    rw [show o + (n + 1) = o + 1 + n from by omega]
    exact this
theorem VRF_take {rd : Nat → Option Value} : ∀ (n : Nat) {cs : List AV} {o : Nat}, VRF κ rd cs o → VRF κ rd (cs.take n) o
  | 0, _, _, h => by simp [VRF]
  | n + 1, [], _, h => by simp [VRF]
  | n + 1, a :: as, o, h => by simp only [VRF] at h; simp only [List.take_succ_cons, VRF]; exact ⟨h.1, VRF_take n h.2⟩
/-- The cells that are read, as a list. -/
theorem VRF_read {rd : Nat → Option Value} : ∀ {cs : List AV} {o : Nat}, VRF κ rd cs o → ∃ vs : List Value, vs.length = cs.length ∧ VRs κ cs vs ∧ ∀ j v, vs[j]? = some v → rd (o + j) = some v
  | [], o, h => ⟨[], rfl, by simp [VRs], by simp⟩
  | a :: as, o, h => by
    simp only [VRF] at h
    obtain ⟨⟨v, h1, h2⟩, h3⟩ := h
    obtain ⟨vs, h4, h5, h6⟩ := VRF_read h3
    refine ⟨v :: vs, by simp [h4], by simp only [VRs]; exact ⟨v, vs, rfl, h2, h5⟩, ?_⟩
    intro j u hu
    cases j with
    | zero => simp at hu; subst hu; exact h1
    | succ j => have := h6 j u (by simpa using hu); rw [← this]; congr 1; omega
theorem VRE_get {rd : Nat → Option Value} {sz : Nat} : ∀ {es : List (List AV)} {o : Nat} (_ : VRE κ rd sz es o) {i : Nat} (_ : i < es.length), (es.getD i []).length = sz ∧ VRF κ rd (es.getD i []) (o + i * sz)
  | [], _, _, i, hi => by simp at hi
  | a :: as, o, h, i, hi => by
    simp only [VRE] at h
    obtain ⟨h1, h2, h3⟩ := h
    cases i with
    | zero => simpa using ⟨h1, h2⟩
    | succ i =>
      have := VRE_get h3 (i := i) (by simpa using hi)
      rw [show o + (i + 1) * sz = o + sz + i * sz from by rw [Nat.add_mul]; omega]
      exact this
theorem VRE_drop {rd : Nat → Option Value} {sz : Nat} : ∀ (n : Nat) {es : List (List AV)} {o : Nat}, VRE κ rd sz es o → n ≤ es.length → VRE κ rd sz (es.drop n) (o + n * sz)
  | 0, _, _, h, _ => by simpa using h
  | n + 1, [], _, h, hn => by simp at hn
  | n + 1, a :: as, o, h, hn => by
    simp only [VRE] at h
    have := VRE_drop n h.2.2 (by simpa using hn)
    rw [show o + (n + 1) * sz = o + sz + n * sz from by rw [Nat.add_mul]; omega]
    exact this
theorem VRE_take {rd : Nat → Option Value} {sz : Nat} : ∀ (n : Nat) {es : List (List AV)} {o : Nat}, VRE κ rd sz es o → VRE κ rd sz (es.take n) o
  | 0, _, _, h => by simp [VRE]
  | n + 1, [], _, h => by simp [VRE]
  | n + 1, a :: as, o, h => by simp only [VRE] at h; simp only [List.take_succ_cons, VRE]; exact ⟨h.1, h.2.1, VRE_take n h.2.2⟩

theorem run_sz {t : TypeId} {n : Nat} (h : tsz P t = some n) (w : World) : (sizeOf t).run P w = .ok n w := by
  unfold tsz at h
  cases hi : P.info? t with
  | none => simp [hi] at h
  | some i => simp [hi] at h; simp [sizeOf, typeInfo, hi, h]
theorem run_agg {t : TypeId} {b : Bool} (h : aggT P t = some b) (w : World) : (isAgg t).run P w = .ok b w := by
  unfold aggT at h
  split at h <;> first | cases h | skip
  all_goals rename_i hu
  · simp [isAgg, run_underlying hu]
  · simp [isAgg, run_underlying hu]
  · rename_i d h1 h2
    simp only [isAgg, Sem.run_bind, run_underlying hu, Result.andThen]
    rfl

theorem aUn_ok {op : UnOp} {x : AV} {cx : Value} {c : Prop} {v : AV} (h : aUn op x = some (c, v)) (hc : c) (hx : VR κ x cx) : Yields κ P (Op.unary op cx) w v := by
  unfold aUn at h
  split at h <;> first | cases h | skip
  all_goals (simp only [VR] at hx; subst hx)
  · exact ⟨_, by simp [Op.unary, Op.intArith]; rfl, by simp [VR]⟩
  · exact ⟨_, by simp [Op.unary, Op.intBits]; rfl, by simp [VR, ibits]⟩
  · exact ⟨_, by simp [Op.unary]; rfl, by simp [VR]⟩

theorem aConv_ok {s d : TypeId} {x : AV} {cx : Value} {c : Prop} {v : AV} (h : aConv P s d x = some (c, v)) (hc : c) (hx : VR κ x cx) : Yields κ P (Go.convert s d cx) w v := by
  unfold aConv at h
  split at h <;> first | cases h | skip
  all_goals (rename_i hs hd; simp only [VR] at hx; subst hx)
  · exact ⟨_, by simp [Go.convert, run_underlying hs, run_underlying hd, Conv.intToInt]; rfl, by simp [VR]⟩
  · rename_i u _
    cases u <;> exact ⟨_, by simp [Go.convert, run_underlying hs, run_underlying hd]; rfl, by simp [VR]⟩
  · rename_i u _
    cases u <;> exact ⟨_, by simp [Go.convert, run_underlying hs, run_underlying hd, Conv.intToString]; rfl, by simp [VR]⟩

theorem aPart_ok {t : TypeId} {cs : List AV} {vs : Array Value} {off : Nat} {c : Prop} {v : AV} (h : aPart P t cs off = some (c, v)) (hc : c) (hx : VRs κ cs vs.toList) : Yields κ P (part t vs off) w v := by
  unfold aPart at h
  split at h <;> first | cases h | skip
  · rename_i n ha hn
    refine ⟨.agg (vs.extract off (off + n)), by simp [part, run_agg ha, run_sz hn], ?_⟩
    simp only [VR]
    refine ⟨_, rfl, ?_⟩
    have := VRs_take n (VRs_drop off hx)
    simpa [Array.toList_extract, List.take_drop] using this
  · rename_i ha
    obtain ⟨u, hu, hv⟩ := VRs_get hx hc
    exact ⟨u, by simp [part, run_agg ha]; simp at hu; simp [hu], hv⟩

theorem aField_ok {t : TypeId} {x : AV} {cx : Value} {f : Nat} {c : Prop} {v : AV} (h : aField P t x f = some (c, v)) (hc : c) (hx : VR κ x cx) : Yields κ P (Instr.field t cx f) w v := by
  unfold aField at h
  split at h <;> first | cases h | skip
  rename_i fs cs hu
  simp only [VR] at hx
  obtain ⟨vs, rfl, hx⟩ := hx
  split at h <;> first | cases h | skip
  rename_i fd hf
  obtain ⟨cv, hr, hv⟩ := aPart_ok (w := w) h hc hx
  exact ⟨cv, by simp [Instr.field, run_underlying hu, hf, asAgg, hr], hv⟩

theorem aExtract_ok {x : AV} {cx : Value} {i : Nat} {c : Prop} {v : AV} (h : aExtract x i = some (c, v)) (hc : c) (hx : VR κ x cx) : Yields κ P (Instr.extract cx i) w v := by
  unfold aExtract at h
  split at h <;> first | cases h | skip
  simp only [VR] at hx
  obtain ⟨vs, rfl, hx⟩ := hx
  obtain ⟨u, hu, hv⟩ := VRs_get hx hc
  simp at hu
  exact ⟨u, by simp [Instr.extract, hu], hv⟩

theorem aLen_ok {t ty : TypeId} {x : AV} {cx : Value} {c : Prop} {v : AV} (h : aLen P t x = some (c, v)) (hc : c) (hx : VR κ x cx) : Yields κ P (Builtin.len_ #[t] ty #[cx]) w v := by
  unfold aLen at h
  split at h <;> first | cases h | skip
  all_goals rename_i hu
  · simp only [VR] at hx; subst hx; exact ⟨_, by simp [Builtin.len_, run_underlying hu]; rfl, by simp [VR, goInt, ByteArray.size]⟩
  · simp only [VR] at hx; obtain ⟨b, o, cap, rfl, _, _⟩ := hx; exact ⟨_, by simp [Builtin.len_, run_underlying hu]; rfl, by simp [VR, goInt]⟩
  · simp only [VR] at hx; obtain ⟨b, cap, L, rfl, _, _, _⟩ := hx; exact ⟨_, by simp [Builtin.len_, run_underlying hu]; rfl, by simp [VR, goInt]⟩
  · simp only [VR] at hx; subst hx; exact ⟨_, by simp [Builtin.len_, run_underlying hu]; rfl, by simp [VR, goInt]⟩
  · exact ⟨_, by simp [Builtin.len_, run_underlying hu]; rfl, by simp [VR, goInt]⟩
  · simp only [VR] at hx; subst hx; exact ⟨_, by simp [Builtin.len_, run_underlying hu]; rfl, by simp [VR, goInt]⟩

theorem aMkI_ok {t : TypeId} {x : AV} {cx : Value} {c : Prop} {v : AV} (h : aMkI P t x = some (c, v)) (hc : c) (hx : VR κ x cx) : Yields κ P (Instr.makeInterface t cx) w v := by
  unfold aMkI at h
  split at h <;> first | cases h | skip
  rename_i d hd hu
  refine ⟨.iface t cx, ?_, by simp only [VR]; exact ⟨cx, rfl, hx⟩⟩
  simp only [Instr.makeInterface, Sem.run_bind, run_underlying hu, Result.andThen]
  rfl

theorem aIndex_ok {t : TypeId} {x i : AV} {cx ci : Value} {c : Prop} {v : AV} (h : aIndex P t x i = some (c, v)) (hc : c) (hx : VR κ x cx) (hi : VR κ i ci) : Yields κ P (Instr.index t cx ci) w v := by
  unfold aIndex at h
  split at h <;> first | cases h | skip
  · rename_i s k n hu
    simp only [VR] at hx hi
    subst hx; subst hi
    have hlt : n.toNat < s.length := by omega
    refine ⟨.int .u8 ((s.getD n.toNat 0).toNat : Int), ?_, by simp [VR]⟩
    rw [run_index_string w t _ k n hu, dif_pos (by simpa [ByteArray.size] using hc)]
    have : (⟨s.toArray⟩ : ByteArray)[n.toNat]'(by simpa [ByteArray.size] using hlt) = s.getD n.toNat 0 := by
      have : (⟨s.toArray⟩ : ByteArray)[n.toNat]'(by simpa [ByteArray.size] using hlt) = s[n.toNat] := rfl
      rw [this]; simp [List.getD, List.getElem?_eq_getElem hlt]
    rw [this]
  · rename_i m e cs k n hu
    split at h <;> first | cases h | skip
    rename_i z hz
    simp only [Option.map_eq_some_iff, Prod.mk.injEq] at h
    obtain ⟨⟨c', v'⟩, hp, rfl, rfl⟩ := h
    simp only [VR] at hx hi
    obtain ⟨vs, rfl, hx⟩ := hx
    subst hi
    obtain ⟨cv, hr, hv⟩ := aPart_ok (w := w) hp hc.2 hx
    exact ⟨cv, by simp [Instr.index, asIntOf, run_underlying hu, hc.1, run_sz hz, hr], hv⟩

theorem aNil_ok {x : AV} {c : Prop} {v : AV} {o : Oper} {ρ : Operand → Value} {ox : Operand} (ho : o.op = .nilCheck ox) (h : aNil x = some (c, v)) (hc : c) (hx : VR κ x (ρ ox)) :
    ∃ cv, (execOp ρ o).run P w = .ok (.value cv) w ∧ VR κ v cv := by
  unfold aNil at h
  split at h <;> first | cases h | skip
  · have h2 := hx
    simp only [VR] at hx; obtain ⟨a, L, e, _⟩ := hx; rw [e] at h2; exact ⟨_, by simp [execOp, ho, e], h2⟩
  · have h2 := hx
    simp only [VR] at hx; obtain ⟨b, o', e, _⟩ := hx; rw [e] at h2; exact ⟨_, by simp [execOp, ho, e], h2⟩
  · have h2 := hx
    simp only [VR] at hx; obtain ⟨b, o', e, _⟩ := hx; rw [e] at h2; exact ⟨_, by simp [execOp, ho, e], h2⟩

end
end Go.Abs
