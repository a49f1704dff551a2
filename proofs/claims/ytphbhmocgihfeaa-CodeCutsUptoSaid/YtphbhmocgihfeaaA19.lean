/- THE ABSTRACT MEMORY (part 19): loops by their frames; whole numbers that need no wrap. -/
import Derived.Test.YtphbhmocgihfeaaA18
namespace Go.Abs
open Go.RowKit
set_option linter.unusedSectionVars false
set_option linter.unusedVariables false

theorem w_i64 {n : Int} (h0 : -9223372036854775808 ≤ n) (h1 : n ≤ 9223372036854775807) : IntKind.i64.wrap n = n := by
  simp only [IntKind.wrap, IntKind.signed, IntKind.bits]; simp; (first | omega | (split <;> omega))
theorem w_i32 {n : Int} (h0 : -2147483648 ≤ n) (h1 : n ≤ 2147483647) : IntKind.i32.wrap n = n := by
  simp only [IntKind.wrap, IntKind.signed, IntKind.bits]; simp; (first | omega | (split <;> omega))
theorem w_u64 {n : Int} (h0 : 0 ≤ n) (h1 : n ≤ 18446744073709551615) : IntKind.u64.wrap n = n := by
  simp only [IntKind.wrap, IntKind.signed, IntKind.bits]; simp; (first | omega | (split <;> omega))
theorem w_u32 {n : Int} (h0 : 0 ≤ n) (h1 : n ≤ 4294967295) : IntKind.u32.wrap n = n := by
  simp only [IntKind.wrap, IntKind.signed, IntKind.bits]; simp; (first | omega | (split <;> omega))
theorem w_u8 {n : Int} (h0 : 0 ≤ n) (h1 : n ≤ 255) : IntKind.u8.wrap n = n := by
  simp only [IntKind.wrap, IntKind.signed, IntKind.bits]; simp; (first | omega | (split <;> omega))

section
variable {E : Env} {r : Option Nat} {Q : APost}

/-- A loop whose frame at each round's head is F i, its memory G i. -/
theorem AW.loopF {ι : Type} {c : Code} {a : AA} {st : St} (F : ι → List AV) (G : ι → St) (I : ι → Prop) (μ : ι → Nat) (i0 : ι) (h0 : Weak a.tm (F i0)) (hst : st = G i0) (hI : I i0)
    (round : ∀ i, I i → AW E r c (AThen (fun a' st' => ∃ j, I j ∧ μ j < μ i ∧ Weak a'.tm (F j) ∧ a'.ds = a.ds ∧ st' = G j) Q) { tm := F i, ds := a.ds } (G i)) : AW E r (.loop c) Q a st := by
  subst hst
  have key : ∀ n, ∀ i, I i → μ i = n → ∀ (b : Frame) (k : List Item) (cs : List Frame) κ w act rd, b.roundOf = (Fr rd).round → (Fr rd).fn b.fn → (Fr rd).room (cs.length + 1 + 0) → Rel E κ (G i) w → AR κ { tm := F i, ds := a.ds } act → RdR κ r rd →
      ∃ e a' w', upX E κ Q e a' w' ∧ ArrivesIn (Machine.fenced E.P (Fr rd)) E.P (lone (b.atR act (.code c :: .inLoop c :: k)) cs w) b k cs e a' w' := by
    intro n
    induction n using Nat.strongRecOn with
    | _ n ih =>
      intro i hI hn b k cs κ w act rd hro hb hr h1 h2 h3
      obtain ⟨e, a₁, w₁, ⟨κ', x', a', st', hle, h1', h2', hx, hq⟩, harr⟩ := round i hI κ w act rd h1 h2 h3 b (.inLoop c :: k) cs hro hb hr
      cases x' with
      | normal =>
        simp only [XR] at hx; subst hx
        obtain ⟨j, hIj, hlt, hw, hds, rfl⟩ := hq
        have h2j : AR κ' { tm := F j, ds := a.ds } a₁ := ⟨VRs_weak hw h2'.t, by rw [← hds]; exact h2'.d⟩
        obtain ⟨e₂, a₂, w₂, hq₂, harr₂⟩ := ih (μ j) (by omega) j hIj rfl b k cs κ' w₁ a₁ rd hro hb hr h1' h2j (h3.mono hle)
        exact ⟨e₂, a₂, w₂, upX_le hle (fun _ _ _ h => h) hq₂, .of_steps (StepsIn.trans harr (.one (fenced_calm hb hr rfl) stepR_inLoop)) harr₂⟩
      | exit id => simp only [XR] at hx; subst hx; exact ⟨_, a₁, w₁, ⟨κ', .exit id, a', st', hle, h1', h2', rfl, hq⟩, .pass (x := .inLoop c) rfl (fun _ _ => .inl (by simp)) harr⟩
      | goto l => simp only [XR] at hx; subst hx; exact ⟨_, a₁, w₁, ⟨κ', .goto l, a', st', hle, h1', h2', rfl, hq⟩, .pass (x := .inLoop c) rfl (fun _ _ => .inl (by simp)) harr⟩
      | ret => simp only [XR] at hx; subst hx; exact ⟨_, a₁, w₁, ⟨κ', .ret, a', st', hle, h1', h2', rfl, hq⟩, .pass (x := .inLoop c) rfl (fun _ _ => .inl (by simp)) harr⟩
      | panic v => simp only [XR] at hx; obtain ⟨cv, rfl, hv⟩ := hx; exact ⟨_, a₁, w₁, ⟨κ', .panic v, a', st', hle, h1', h2', ⟨cv, rfl, hv⟩, hq⟩, .pass (x := .inLoop c) rfl (fun _ _ => .inl (by simp)) harr⟩
  intro κ w act rd h1 h2 h3 b k cs hro hb hr
  obtain ⟨e, a', w', hq, harr⟩ := key _ i0 hI rfl b k cs κ w act rd hro hb hr h1 ⟨VRs_weak h0 h2.t, h2.d⟩ h3
  exact ⟨e, a', w', hq, .of_steps (.one (fenced_calm hb hr rfl) stepR_loop) harr⟩

end
end Go.Abs
