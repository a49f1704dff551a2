/- THE ABSTRACT MEMORY (part 8): the rule of an operation that only reckons; how a region is gone through. -/
import Derived.Test.YtphbhmocgihfeaaA7
namespace Go.Abs
open Go.RowKit
set_option linter.unusedSectionVars false
set_option linter.unusedVariables false
set_option linter.unusedSimpArgs false

section
variable {E : Env} {κ : K} {st : St} {w : World} {a : AA} {act : Act}

theorem evs_ok (hv : ∀ x, VR κ (evU E a x) (act.eval x)) : ∀ xs : List Operand, VRs κ (xs.map (evU E a)) (xs.map act.eval)
  | [] => by simp [VRs]
  | x :: xs => by simp only [List.map_cons, VRs]; exact ⟨_, _, rfl, hv x, evs_ok hv xs⟩

theorem evsC_ok (hR : Rel E κ st w) (hA : AR κ a act) : ∀ (xs : List Operand), evCs E a xs → VRs κ (xs.map (evU E a)) (xs.map act.eval)
  | [], _ => by simp [VRs]
  | x :: xs, h => by simp only [List.map_cons, VRs]; exact ⟨_, _, rfl, unO_ok (hA.ev hR x) h.1, evsC_ok hR hA xs h.2⟩

theorem aPick_ok {P : Program} {ρ : Operand → Value} {o : Oper} {oc ox oy : Operand} {x y z : AV} {c : Prop} {v : AV} (ho : o.op = .pick oc ox oy) (h : aPick x y z = some (c, v)) (hc : c)
    (hx : VR κ x (ρ oc)) (hy : VR κ y (ρ ox)) (hz : VR κ z (ρ oy)) : ∃ cv, (execOp ρ o).run P w = .ok (.value cv) w ∧ VR κ v cv := by
  unfold aPick at h
  split at h <;> first | cases h | skip
  all_goals
    simp only [VR] at hx hy hz
    simp only [execOp, ho, hx, asBool]
  · rename_i b y
    cases b
    · exact ⟨_, by simp; rfl, by simp [VR, hz]⟩
    · exact ⟨_, by simp; rfl, by simp [VR, hy]⟩
  · rename_i b y hn
    cases b
    · exact ⟨_, by simp; rfl, by simp [VR, hz]⟩
    · exact ⟨_, by simp; rfl, by simp [VR, hy]⟩
  · rename_i b g y
    cases b
    · exact ⟨_, by simp; rfl, by simp [VR, hz.1 (hc rfl)]⟩
    · exact ⟨_, by simp; rfl, by simp [VR, hy]⟩
  · rename_i b g y
    cases b
    · exact ⟨_, by simp; rfl, by simp [VR, hz]⟩
    · exact ⟨_, by simp; rfl, by simp [VR, hy.1 (hc rfl)]⟩

theorem pureOp_ok {o : Oper} {c : Prop} {v : AV} (h : pureOp E a o.op = some (c, v)) (hc : c) : PureV E o a v := by
  intro κ st w act hR hA
  have hev := fun x => hA.ev hR x
  have hb : ∀ s : Sem Value, Yields κ E.P s w v → ∃ cv, (do pure (.value (← s)) : Sem Next).run E.P w = .ok (.value cv) w ∧ VR κ v cv := by
    rintro s ⟨cv, hr, hv⟩; exact ⟨cv, by simp [hr], hv⟩
  cases hop : o.op <;> rw [hop] at h
  case defer cl => simp [pureOp, pureOp1] at h
  all_goals refine ⟨fun c => by simp, ?_⟩
  case move x => simp only [pureOp, Option.some.injEq, Prod.mk.injEq] at h; obtain ⟨_, rfl⟩ := h; exact ⟨_, by simp [execOp, hop], hev x⟩
  case assign x => simp only [pureOp, Option.some.injEq, Prod.mk.injEq] at h; obtain ⟨_, rfl⟩ := h; exact ⟨_, by simp [execOp, hop], hev x⟩
  case pick x y z =>
    simp only [pureOp, Option.map_eq_some_iff, Prod.mk.injEq] at h
    obtain ⟨⟨c', v'⟩, hp, rfl, rfl⟩ := h
    exact aPick_ok hop hp hc.2 (unO_ok (hev x) hc.1) (hev y) (hev z)
  all_goals simp only [pureOp, pureOp1, Option.map_eq_some_iff, Prod.mk.injEq, reduceCtorEq, false_and, exists_const, and_false, Option.map_none] at h
  all_goals (first | (exact h.elim) | skip)
  all_goals
    obtain ⟨⟨c', v'⟩, hp, rfl, rfl⟩ := h
    dsimp only at hb hc ⊢
    obtain ⟨hcs, hc⟩ := hc
    have hu : ∀ x, x ∈ o.op.operands.toList → VR κ (evU E a x) (act.eval x) := fun x hx => unO_ok (hev x) (evCs_mem hcs x (by rw [hop] at hx; exact hx))
    rw [hop] at hu
  case binOp op t x y yt =>
    simp only [execOp, hop]
    refine hb _ ?_
    have hx := hu x (by simp [Op.operands])
    have hy := hu y (by simp [Op.operands])
    unfold aBinOp at hp
    split at hp
    · rename_i r hr
      cases hp
      exact aBin_ok hr hc hx hy t x y
    · cases op <;> simp only [Option.map_eq_some_iff, Prod.mk.injEq, reduceCtorEq] at hp
      all_goals
        obtain ⟨b, hq, _, rfl⟩ := hp
        obtain ⟨h1, h2, h3⟩ := equalIn_ok (P := E.P) (w := w) hq hx hy
      · exact ⟨.bool b, by rw [Sem.run_bind, eqGuard_int .eql t x y _ _ h2, h3 .eql (.inl rfl)]; simp [h1], by simp [VR]⟩
      · exact ⟨.bool (!b), by rw [Sem.run_bind, eqGuard_int .neq t x y _ _ h2, h3 .neq (.inr rfl)]; simp [h1], by simp [VR]⟩
  case unOp op t x => simp only [execOp, hop]; exact hb _ (aUn_ok hp hc (hu x (by simp [Op.operands])))
  case convert s d x => simp only [execOp, hop]; exact hb _ (aConv_ok hp hc (hu x (by simp [Op.operands])))
  case makeInterface t x => simp only [execOp, hop]; exact hb _ (aMkI_ok hp hc (hu x (by simp [Op.operands])))
  case field t x f => simp only [execOp, hop]; exact hb _ (aField_ok hp hc (hu x (by simp [Op.operands])))
  case extract x i => simp only [execOp, hop]; exact hb _ (aExtract_ok hp hc (hu x (by simp [Op.operands])))
  case index t x i => simp only [execOp, hop]; exact hb _ (aIndex_ok hp hc (hu x (by simp [Op.operands])) (hu i (by simp [Op.operands])))
  case indexAddr t x i => simp only [execOp, hop]; exact hb _ (aIndexAddr_ok hp hc (hu x (by simp [Op.operands])) (hu i (by simp [Op.operands])))
  case fieldAddr t x f => simp only [execOp, hop]; exact hb _ (aFieldAddr_ok hp hc (hu x (by simp [Op.operands])))
  case load t x => simp only [execOp, hop]; exact hb _ (aLoadF_ok hR hp hc (hu x (by simp [Op.operands])))
  case nilCheck x => exact aNil_ok hop hp hc (hu x (by simp [Op.operands]))
  case makeFunc fn fi ca =>
    simp only [Option.some.injEq, Prod.mk.injEq] at hp
    obtain ⟨_, rfl⟩ := hp
    simp only [execOp, hop]
    refine hb _ ⟨.func fn (fi.map act.eval) (ca.map act.eval), by simp [Instr.makeFunc], ?_⟩
    simp only [VR]
    simp only [Op.operands, Array.toList_append] at hcs
    have happ : ∀ (xs ys : List Operand), evCs E a (xs ++ ys) → evCs E a xs ∧ evCs E a ys := by
      intro xs ys
      induction xs with
      | nil => intro h; exact ⟨trivial, h⟩
      | cons z zs ih => intro h; exact ⟨⟨h.1, (ih h.2).1⟩, (ih h.2).2⟩
    obtain ⟨g1, g2⟩ := happ _ _ hcs
    exact ⟨_, _, rfl, by simpa using evsC_ok hR hA fi.toList g1, by simpa using evsC_ok hR hA ca.toList g2⟩
  case slice t x lo hi mx =>
    cases mx with
    | some m => simp at hp
    | none =>
      simp only at hp
      simp only [execOp, hop]
      refine hb _ ?_
      refine aSlice_ok hp hc (hu x (by simp [Op.operands])) ?_ ?_
      · cases lo with
        | none => exact .inl ⟨rfl, rfl⟩
        | some l => exact .inr ⟨_, _, rfl, rfl, hu l (by simp [Op.operands])⟩
      · cases hi with
        | none => exact .inl ⟨rfl, rfl⟩
        | some l => exact .inr ⟨_, _, rfl, rfl, hu l (by simp [Op.operands])⟩
  case call cl =>
    obtain ⟨callee, args, tys⟩ := cl
    simp only [aBuiltin] at hp
    split at hp <;> first | cases hp | skip
    · rename_i x t h2 h3
      obtain rfl : args = #[x] := by cases args; simp at h2; simp [h2]
      obtain rfl : tys = #[t] := by cases tys; simp at h3; simp [h3]
      obtain ⟨cv, hr, hv⟩ := aLen_ok (w := w) (ty := o.type) hp hc (hu x (by simp [Op.operands, Call.operands]))
      exact ⟨cv, by simp [execOp, hop, resolve, invoke, builtin, hr], hv⟩
    · rename_i x y h2
      obtain rfl : args = #[x, y] := by cases args; simp at h2; simp [h2]
      have hx := hu x (by simp [Op.operands, Call.operands])
      have hy := hu y (by simp [Op.operands, Call.operands])
      unfold aMin at hp
      split at hp <;> first | cases hp | skip
      rename_i e1 e2
      rw [e1] at hx; rw [e2] at hy
      simp only [VR] at hx hy
      exact ⟨_, by simp [execOp, hop, resolve, invoke, builtin, Builtin.min_, hx, hy, Builtin.min2]; rfl, by simp [VR]⟩
    · rename_i x y h2
      obtain rfl : args = #[x, y] := by cases args; simp at h2; simp [h2]
      have hx := hu x (by simp [Op.operands, Call.operands])
      have hy := hu y (by simp [Op.operands, Call.operands])
      unfold aMax at hp
      split at hp <;> first | cases hp | skip
      rename_i e1 e2
      rw [e1] at hx; rw [e2] at hy
      simp only [VR] at hx hy
      exact ⟨_, by simp [execOp, hop, resolve, invoke, builtin, Builtin.max_, hx, hy, Builtin.max2]; rfl, by simp [VR]⟩

end
end Go.Abs
