/- THE ABSTRACT MEMORY (part 7): addresses, slices; the rule of an operation that only reckons. -/
import Derived.Test.YtphbhmocgihfeaaA6
namespace Go.Abs
open Go.RowKit
set_option linter.unusedSectionVars false
set_option linter.unusedVariables false
set_option linter.unusedSimpArgs false

theorem spot_add {a : Addr} (h : a.spot = none) (n : Nat) : (a.add n).spot = none := by unfold Addr.add; split <;> simp_all
theorem addr_add (b o n : Nat) : (⟨b, o, none⟩ : Addr).add n = ⟨b, o + n, none⟩ := by unfold Addr.add; split <;> simp_all

section
variable {E : Env} {κ : K} {st : St} {w : World} {P : Program}

theorem fieldPlace_ok {a : Addr} {f : Field} {n : Nat} (hn : tsz P f.type = some n) (h0 : n ≠ 0) (w : World) : (fieldPlace a f).run P w = .ok (a.add f.offset) w := by
  simp [fieldPlace, run_sz hn, h0]

theorem aFieldAddr_ok {t : TypeId} {x : AV} {cx : Value} {f : Nat} {c : Prop} {v : AV} (h : aFieldAddr P t x f = some (c, v)) (hc : c) (hx : VR κ x cx) : Yields κ P (Instr.fieldAt t cx f) w v := by
  unfold aFieldAddr at h
  split at h <;> first | cases h | skip
  all_goals
    rename_i hu
    split at h <;> first | cases h | skip
    rename_i fd hf
    simp only [VR] at hx
  · obtain ⟨a, L, rfl, hL, hg, ha⟩ := hx
    obtain ⟨n, hn⟩ := Option.isSome_iff_exists.1 hc.2
    have h0 : n ≠ 0 := fun e => hc.1 (by rw [hn, e])
    refine ⟨.pointer (some (a.add fd.offset)), by simp [Instr.fieldAt, run_underlying hu, hf, Instr.sureAddr, fieldPlace_ok hn h0], ?_⟩
    simp only [VR]
    refine ⟨_, L, rfl, hL, hg, fun e => ?_⟩
    rw [ha e, addr_add]
    simp only [Addr.mk.injEq, true_and, and_true]
    omega
  · obtain ⟨b, o, rfl, hF⟩ := hx
    obtain ⟨n, hn⟩ := Option.isSome_iff_exists.1 hc.2.1
    have h0 : n ≠ 0 := fun e => hc.1 (by rw [hn, e])
    refine ⟨.pointer (some ⟨b, o + fd.offset, none⟩), by simp [Instr.fieldAt, run_underlying hu, hf, Instr.sureAddr, fieldPlace_ok hn h0, addr_add], ?_⟩
    simp only [VR]
    exact ⟨b, _, rfl, VRF_drop _ hF hc.2.2⟩

theorem aIndexAddr_ok {t : TypeId} {x i : AV} {cx ci : Value} {c : Prop} {v : AV} (h : aIndexAddr P t x i = some (c, v)) (hc : c) (hx : VR κ x cx) (hi : VR κ i ci) : Yields κ P (Instr.indexAt t cx ci) w v := by
  unfold aIndexAddr at h
  split at h <;> first | cases h | skip
  all_goals
    rename_i hu
    simp only [VR] at hx hi
    subst hi
  · rename_i e sz es k i
    obtain ⟨b, o, cap, rfl, hlc, hE⟩ := hx
    have hlt : i.toNat < es.length := by omega
    refine ⟨.pointer (some ⟨b, o + i.toNat * sz, none⟩), ?_, ?_⟩
    · simp [Instr.indexAt, asIntOf, run_underlying hu, hc.1, run_sz hc.2, addr_add]
    · simp only [VR]
      exact ⟨b, _, rfl, (VRE_get hE hlt).2⟩
  · rename_i e id g sz off len k i
    obtain ⟨a, cap, L, rfl, hlc, hL, hs, hg, ha⟩ := hx
    refine ⟨.pointer (some (a.add (i.toNat * sz))), ?_, ?_⟩
    · simp [Instr.indexAt, asIntOf, run_underlying hu, hc.1, run_sz hc.2]
    · simp only [VR]
      refine ⟨_, L, rfl, hL, hg, fun e => ?_⟩
      have hlt := hc.1
      rcases ha e with ⟨h1, h2, h3⟩ | ⟨h1, h2⟩
      · rw [h1, addr_add, hs, Nat.add_mul]; rfl
      · omega
  · rename_i n e id g j c' k i
    split at h <;> first | cases h | skip
    rename_i z hz
    obtain ⟨a, L, rfl, hL, hg, ha⟩ := hx
    refine ⟨.pointer (some (a.add (i.toNat * z))), ?_, ?_⟩
    · simp [Instr.indexAt, asIntOf, run_underlying hu, hc, run_sz hz, Instr.sureAddr]
    · simp only [VR]
      refine ⟨_, L, rfl, hL, hg, fun e => ?_⟩
      rw [ha e, addr_add]
      simp only [Addr.mk.injEq, true_and, and_true]
      omega
  · rename_i n e cs k i
    split at h <;> first | cases h | skip
    rename_i z hz
    obtain ⟨b, o, rfl, hF⟩ := hx
    refine ⟨.pointer (some ⟨b, o + i.toNat * z, none⟩), ?_, ?_⟩
    · simp [Instr.indexAt, asIntOf, run_underlying hu, hc.1, run_sz hz, Instr.sureAddr, addr_add]
    · simp only [VR]
      exact ⟨b, _, rfl, VRF_drop _ hF hc.2⟩


theorem bound_ok {x : Option AV} {cx : Option Value} {d : Int} {n : Int} (h : aBound x d = some n) (hx : (x = none ∧ cx = none) ∨ ∃ a b, x = some a ∧ cx = some b ∧ VR κ a b) :
    (cx = none ∧ n = d) ∨ ∃ k, cx = some (.int k n) := by
  rcases hx with ⟨rfl, rfl⟩ | ⟨a, b, rfl, rfl, hv⟩
  · simp only [aBound, Option.some.injEq] at h; exact .inl ⟨rfl, h.symm⟩
  · cases a <;> simp only [aBound, reduceCtorEq, Option.some.injEq] at h
    subst h
    simp only [VR] at hv
    exact .inr ⟨_, by rw [hv]⟩

theorem sliceBounds_ok {isS : Bool} {len cap : Nat} {lo hi : Option Value} {l h : Int} (hl : (lo = none ∧ l = 0) ∨ ∃ k, lo = some (.int k l)) (hh : (hi = none ∧ h = len) ∨ ∃ k, hi = some (.int k h))
    (h1 : 0 ≤ l) (h2 : l ≤ h) (h3 : h ≤ len) (h4 : len ≤ cap) : (Instr.sliceBounds isS len cap lo hi none).run P w = .ok (l.toNat, h.toNat, cap) w := by
  have hb1 : ∀ (k : IntKind) (n : Int) (y : Nat) (code : BoundsCode), 0 ≤ n → n ≤ y → (Instr.sliceBound (.int k n) y code).run P w = .ok n.toNat w := by
    intro k n y code a b
    simp [Instr.sliceBound, asIntOf, a, b]
  rcases hl with ⟨rfl, rfl⟩ | ⟨k, rfl⟩ <;> rcases hh with ⟨rfl, rfl⟩ | ⟨k', rfl⟩
  · simp [Instr.sliceBounds]
  · simp [Instr.sliceBounds, hb1 k' h cap _ (by omega) (by omega)]
  · simp [Instr.sliceBounds, hb1 k l len _ h1 (by omega)]
  · simp [Instr.sliceBounds, hb1 k' h cap _ (by omega) (by omega), hb1 k l h.toNat _ h1 (by omega)]

theorem aSlice_ok {t : TypeId} {x : AV} {cx : Value} {lo hi : Option AV} {clo chi : Option Value} {c : Prop} {v : AV} (h : aSlice P t x lo hi = some (c, v)) (hc : c) (hx : VR κ x cx)
    (hlo : (lo = none ∧ clo = none) ∨ ∃ a b, lo = some a ∧ clo = some b ∧ VR κ a b) (hhi : (hi = none ∧ chi = none) ∨ ∃ a b, hi = some a ∧ chi = some b ∧ VR κ a b) :
    Yields κ P (Instr.sliceAt t cx clo chi none) w v := by
  unfold aSlice at h
  split at h <;> first | cases h | skip
  · rename_i s hu
    split at h <;> first | cases h | skip
    rename_i l h' hl hh
    have bl := bound_ok hl hlo
    have bh := bound_ok hh hhi
    simp only [VR] at hx
    subst hx
    have hb := sliceBounds_ok (P := P) (w := w) (isS := false) (cap := s.length) bl bh hc.1 hc.2.1 (by omega) (Nat.le_refl _)
    refine ⟨.string ((⟨s.toArray⟩ : ByteArray).extract l.toNat h'.toNat), ?_, ?_⟩
    · have : (⟨s.toArray⟩ : ByteArray).size = s.length := by simp [ByteArray.size]
      simp [Instr.sliceAt, Instr.slice, run_underlying hu, this, hb]
    · simp only [VR, Value.string.injEq]
      have : ∀ x y : ByteArray, x.data.toList = y.data.toList → x = y := fun x y e => by cases x; cases y; simp at e; simp [e]
      apply this
      rw [Lib.extract_data]
  · rename_i e sz es hu
    split at h <;> first | cases h | skip
    rename_i l h' hl hh
    have bl := bound_ok hl hlo
    have bh := bound_ok hh hhi
    simp only [VR] at hx
    obtain ⟨b, o, cap, rfl, hcap, hE⟩ := hx
    have hb := sliceBounds_ok (P := P) (w := w) (isS := true) (cap := cap) bl bh hc.1.1 hc.1.2.1 hc.1.2.2 hcap
    have hr : (Instr.sliceAt t (.slice (some ⟨b, o, none⟩) es.length cap) clo chi none).run P w =
        .ok (.slice (some (if cap = l.toNat then ⟨b, o, none⟩ else ⟨b, o + l.toNat * sz, none⟩)) (h'.toNat - l.toNat) (cap - l.toNat)) w := by
      simp only [Instr.sliceAt, Instr.slice, Sem.run_bind, run_underlying hu, Result.andThen, hb, run_sz hc.2]
      split <;> simp [addr_add, *]
    have hlen : ((es.drop l.toNat).take (h'.toNat - l.toNat)).length = h'.toNat - l.toNat := by
      rw [List.length_take, List.length_drop]; omega
    by_cases he : cap = l.toNat
    · rw [if_pos he] at hr
      refine ⟨_, hr, ?_⟩
      simp only [VR]
      have h0 : h'.toNat - l.toNat = 0 := by omega
      refine ⟨b, o, _, by rw [hlen], by omega, ?_⟩
      rw [h0]
      simp [VRE]
    · rw [if_neg he] at hr
      refine ⟨_, hr, ?_⟩
      simp only [VR]
      exact ⟨b, o + l.toNat * sz, _, by rw [hlen], by omega, VRE_take _ (VRE_drop _ hE (by omega))⟩
  · rename_i e id g sz off len hu
    split at h <;> first | cases h | skip
    rename_i l h' hl hh
    have bl := bound_ok hl hlo
    have bh := bound_ok hh hhi
    simp only [VR] at hx
    obtain ⟨a, cap, L, rfl, hcap, hL, hs, hg, ha⟩ := hx
    have hb := sliceBounds_ok (P := P) (w := w) (isS := true) (cap := cap) bl bh hc.1.1 hc.1.2.1 hc.1.2.2 hcap.2
    have hr : (Instr.sliceAt t (.slice (some a) len cap) clo chi none).run P w =
        .ok (.slice (some (if cap = l.toNat then a else a.add (l.toNat * sz))) (h'.toNat - l.toNat) (cap - l.toNat)) w := by
      simp only [Instr.sliceAt, Instr.slice, Sem.run_bind, run_underlying hu, Result.andThen, hb, run_sz hc.2]
      split <;> simp [*]
    have hc1 := hc.1
    refine ⟨_, hr, ?_⟩
    simp only [VR]
    refine ⟨_, _, L, rfl, ⟨by split <;> simp [hcap.1, spot_add], by have := hcap.2; omega⟩, hL, hs, hg, fun e => ?_⟩
    have hcap2 := hcap.2
    by_cases he : cap = l.toNat
    · exact .inr ⟨by omega, by omega⟩
    · rw [if_neg he]
      rcases ha e with ⟨h1, h2, h3⟩ | ⟨h1, h2⟩
      · refine .inl ⟨?_, by omega, by omega⟩
        rw [h1, addr_add, Nat.add_mul]
      · omega
  · rename_i e hu
    split at h <;> first | cases h | skip
    rename_i l h' hl hh
    have bl := bound_ok hl hlo
    have bh := bound_ok hh hhi
    simp only [VR] at hx
    subst hx
    obtain ⟨rfl, rfl, hz⟩ := hc
    obtain ⟨z, hz⟩ := Option.isSome_iff_exists.1 hz
    have hb := sliceBounds_ok (P := P) (w := w) (isS := true) (len := 0) (cap := 0) bl bh (by omega) (by omega) (by omega) (by omega)
    exact ⟨.slice none 0 0, by simp [Instr.sliceAt, Instr.slice, run_underlying hu, hb, run_sz hz], by simp [VR]⟩


theorem aLoadF_ok {t : TypeId} {x : AV} {cx : Value} {c : Prop} {v : AV} (hR : Rel E κ st w) (h : aLoadF P t x = some (c, v)) (hc : c) (hx : VR κ x cx) : Yields κ P (Instr.loadAt t cx) w v := by
  unfold aLoadF at h
  split at h <;> first | cases h | skip
  rename_i cs
  simp only [VR] at hx
  obtain ⟨b, o, rfl, hF⟩ := hx
  split at h <;> first | cases h | skip
  · rename_i n ha hn
    obtain ⟨vs, h1, h2, h3⟩ := VRF_read (VRF_take n hF)
    have hl : vs.length = n := by rw [h1, List.length_take]; omega
    refine ⟨.agg vs.toArray, ?_, by simp only [VR]; exact ⟨_, rfl, h2⟩⟩
    have := run_loadCells_list (P := P) w ⟨b, o, none⟩ vs (fun j v hv => by rw [addr_add]; exact hR.fzw _ _ _ (h3 j v hv))
    rw [hl] at this
    simp [Instr.loadAt, Instr.sureAddr, loadVar, run_agg ha, run_sz hn, this]
  · rename_i ha
    obtain ⟨v, h1, h2⟩ := VRF_get hF (i := 0) hc
    have := hR.fzw _ _ _ h1
    exact ⟨v, by simp [Instr.loadAt, Instr.sureAddr, loadVar, run_agg ha]; simp at this; simp [this], h2⟩

/-- Operands, what is only sometimes there taken as there. -/
def evU (E : Env) (a : AA) (x : Operand) : AV := unO (a.ev E x)
def evC (E : Env) (a : AA) (x : Operand) : Prop := unC (a.ev E x)

theorem unO_ok {x : AV} {cx : Value} (h : VR κ x cx) (hc : unC x) : VR κ (unO x) cx := by
  cases x <;> first | exact h | skip
  simp only [unC] at hc
  simp only [VR] at h
  exact h.1 hc

def evCs (E : Env) (a : AA) : List Operand → Prop
  | [] => True
  | x :: xs => evC E a x ∧ evCs E a xs
theorem evCs_mem {E : Env} {a : AA} : ∀ {xs : List Operand}, evCs E a xs → ∀ x ∈ xs, evC E a x
  | [], _, x, hx => by cases hx
  | y :: ys, h, x, hx => by
    cases hx with
    | head => exact h.1
    | tail _ hm => exact evCs_mem h.2 x hm

/-- What the operation yields, if it only reckons: what must hold, and the value. -/
def pureOp (E : Env) (a : AA) (o : Op) : PV :=
  match o with
  | .move x | .assign x => some (True, a.ev E x)
  | .pick c x y => (aPick (evU E a c) (a.ev E x) (a.ev E y)).map fun p => (evC E a c ∧ p.1, p.2)
  | o => (pureOp1 E.P (evU E a) o).map fun p => (evCs E a o.operands.toList ∧ p.1, p.2)

end
end Go.Abs
