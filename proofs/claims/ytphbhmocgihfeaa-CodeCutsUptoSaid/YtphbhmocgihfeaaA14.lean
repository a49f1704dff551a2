/- THE ABSTRACT MEMORY (part 14): what is forgotten is frozen; a slice of parts; texts and bytes. -/
import Derived.Test.YtphbhmocgihfeaaA13
namespace Go.Abs
open Go.RowKit
set_option linter.unusedSectionVars false
set_option linter.unusedVariables false
set_option linter.unusedSimpArgs false

/-- Slices over blocks that are forgotten, as slices over memory that never changes. -/
def th (st st' : St) : Nat → AV → AV
  | 0, v => v
  | n + 1, v =>
    match v with
    | .arr id g sz off len =>
      match st id, st' id with
      | some (.cells g' sz' es), none => if g = g' ∧ sz = sz' ∧ off + len ≤ es.length then .tree sz (((es.map fun e => e.map (th st st' n)).drop off).take len) else .arr id g sz off len
      | _, _ => .arr id g sz off len
    | .agg cs => .agg (cs.map (th st st' n))
    | .tup cs => .tup (cs.map (th st st' n))
    | .iface t x => .iface t (th st st' n x)
    | v => v
def thE (st st' : St) (n : Nat) : AEnd → AEnd
  | .ret v => .ret (th st st' n v)
  | .panic v => .panic (th st st' n v)

def St.sub (st' st : St) : Prop := ∀ id b, st' id = some b → st id = some b
theorem St.sub_refl (st : St) : st.sub st := fun _ _ h => h
theorem St.sub_set {st st' : St} (h : st.sub st') {id : Nat} (hid : st id = none) (b : Blk) : st.sub (st'.set id b) := by
  intro i c hc
  have hne : i ≠ id := fun e => by subst e; rw [hid] at hc; cases hc
  rw [St.set_ne _ _ hne]; exact h i c hc

section
variable {E : Env} {κ : K} {st st' : St} {w : World} {a : AA} {act : Act} {r : Option Nat} {Q : APost} {Kn : ANext} {o : Oper}

open Classical in
noncomputable def K.freeze (κ : K) (st st' : St) (w : World) : K :=
  { κ with fz := fun b o => if ∃ id L, (st id).isSome ∧ st' id = none ∧ κ.loc id = some L ∧ L.b = b then w.cell? ⟨b, o, none⟩ else κ.fz b o }

theorem K.le_freeze (hR : Rel E κ st w) (st' : St) : K.Le κ (κ.freeze st st' w) := by
  refine ⟨fun id L h => ⟨L, h, Nat.le_refl _, fun _ => rfl, rfl⟩, fun b o v hv => ?_, rfl, rfl⟩
  simp only [K.freeze]
  split
  · exact hR.fzw b o v hv
  · exact hv

theorem Rel.freeze (hR : Rel E κ st w) (hs : st'.sub st) : Rel E (κ.freeze st st' w) st' w := by
  have hK := K.le_freeze hR st'
  have hss : ∀ id, (st' id).isSome → (st id).isSome := fun id hi => by
    obtain ⟨B, hB⟩ := Option.isSome_iff_exists.1 hi
    rw [hs id B hB]; rfl
  refine ⟨fun id B hB => ?_, fun i j Li Lj hi hj h1 h2 h3 => hR.inj i j Li Lj (hss i hi) (hss j hj) h1 h2 h3, fun b o v hv => ?_, fun id L o hi hL => ?_, hR.bnd, hR.bel, hR.n0, fun g => VR.mono hK _ _ (hR.glob g)⟩
  · obtain ⟨L, h1, h2, h3, h4⟩ := hR.dom id B (hs id B hB)
    exact ⟨L, h1, h2.keep hK rfl, h3, h4⟩
  · simp only [K.freeze] at hv
    split at hv
    · exact hv
    · exact hR.fzw b o v hv
  · simp only [K.freeze]
    split
    · rename_i h
      obtain ⟨id', L', h1, h2, h3, h4⟩ := h
      have := hR.inj id id' L L' (hss id hi) h1 hL h3 h4.symm
      subst this
      rw [h2] at hi; simp at hi
    · exact hR.sep id L o (hss id hi) hL

theorem VRs_map {κ κ' : K} {f : AV → AV} (h : ∀ v cv, VR κ v cv → VR κ' (f v) cv) : ∀ {vs : List AV} {cvs : List Value}, VRs κ vs cvs → VRs κ' (vs.map f) cvs
  | [], _, hv => by simp only [VRs] at hv; subst hv; simp [VRs]
  | v :: vs, _, hv => by
    simp only [VRs] at hv
    obtain ⟨c, cs, rfl, h1, h2⟩ := hv
    simp only [List.map_cons, VRs]
    exact ⟨c, cs, rfl, h _ _ h1, VRs_map h h2⟩
theorem VRF_map {κ κ' : K} {f : AV → AV} (h : ∀ v cv, VR κ v cv → VR κ' (f v) cv) {rd rd' : Nat → Option Value} (hr : ∀ o v, rd o = some v → rd' o = some v) : ∀ {vs : List AV} {o : Nat}, VRF κ rd vs o → VRF κ' rd' (vs.map f) o
  | [], _, _ => by simp [VRF]
  | v :: vs, o, hv => by
    simp only [VRF] at hv
    obtain ⟨⟨c, h1, h2⟩, h3⟩ := hv
    simp only [List.map_cons, VRF]
    exact ⟨⟨c, hr _ _ h1, h _ _ h2⟩, VRF_map h hr h3⟩
theorem VRE_map {κ κ' : K} {f : AV → AV} (h : ∀ v cv, VR κ v cv → VR κ' (f v) cv) {rd rd' : Nat → Option Value} (hr : ∀ o v, rd o = some v → rd' o = some v) {sz : Nat} : ∀ {vs : List (List AV)} {o : Nat}, VRE κ rd sz vs o → VRE κ' rd' sz (vs.map fun e => e.map f) o
  | [], _, _ => by simp [VRE]
  | v :: vs, o, hv => by
    simp only [VRE] at hv
    obtain ⟨h1, h2, h3⟩ := hv
    simp only [List.map_cons, VRE]
    exact ⟨by simpa using h1, VRF_map h hr h2, VRE_map h hr h3⟩

theorem th_ok (hR : Rel E κ st w) (hs : st'.sub st) : ∀ (n : Nat) (v : AV) (cv : Value), VR κ v cv → VR (κ.freeze st st' w) (th st st' n v) cv
  | 0, v, cv, hv => VR.mono (K.le_freeze hR st') _ _ hv
  | n + 1, v, cv, hv => by
    have ih := th_ok hR hs n
    have hK := K.le_freeze hR st'
    have hm := VR.mono hK v cv hv
    cases v <;> simp only [th] <;> first | exact hm | skip
    case arr id g sz off len =>
      split
      · rename_i g' sz' es h1 h2
        split
        · rename_i hc
          obtain ⟨rfl, rfl, hle⟩ := hc
          obtain ⟨L, hL, hB, _, _⟩ := hR.dom id _ h1
          obtain ⟨e1, e2, hl, hm', c, t, fr, hh, hsz, hfr, hE⟩ := hB
          simp only [VR] at hv
          obtain ⟨ad, cap, L', rfl, hlc, hL', hs', hg, ha⟩ := hv
          rw [hL] at hL'; cases hL'
          have hlen : (((es.map fun e => e.map (th st st' n)).drop off).take len).length = len := by
            rw [List.length_take, List.length_drop, List.length_map]; omega
          have hfz : ∀ o, (κ.freeze st st' w).fz L.b o = c[o]? := by
            intro o
            simp only [K.freeze]
            rw [if_pos ⟨id, L, by simp [h1], h2, hL, rfl⟩]
            exact cell_of_cells hh o
          have hE2 := VRE_map (κ' := κ.freeze st st' w) (f := th st st' n) ih (rd' := (κ.freeze st st' w).fz L.b) (fun o v hv => by rw [hfz]; exact hv) hE
          have hE3 := VRE_take len (VRE_drop off hE2 (by rw [List.length_map]; omega))
          simp only [VR]
          rcases ha e1 with ⟨q1, q2, q3⟩ | ⟨q1, q2⟩
          · exact ⟨L.b, off * sz, cap, by rw [hlen, q1], by rw [hlen]; exact hlc.2, by simpa using hE3⟩
          · refine ⟨ad.block, ad.off, cap, ?_, by rw [hlen]; exact hlc.2, ?_⟩
            · obtain ⟨b1, o1, s1⟩ := ad; have h1 := hlc.1; simp only at h1; subst h1; rw [hlen]
            · have h0 : (((es.map fun e => e.map (th st st' n)).drop off).take len) = [] := List.eq_nil_of_length_eq_zero (by rw [hlen]; exact q1)
              rw [h0]; simp [VRE]
        · exact hm
      · exact hm
    case agg cs => simp only [VR] at hv ⊢; obtain ⟨vs, rfl, hv⟩ := hv; exact ⟨vs, rfl, VRs_map ih hv⟩
    case tup cs => simp only [VR] at hv ⊢; obtain ⟨vs, rfl, hv⟩ := hv; exact ⟨vs, rfl, VRs_map ih hv⟩
    case iface t x => simp only [VR] at hv ⊢; obtain ⟨y, rfl, hv⟩ := hv; exact ⟨y, rfl, ih _ _ hv⟩

/-- Behind a call: what is forgotten is frozen. -/
theorem ACalls.thaw {f : FuncId} {args : List AV} {R R' : AEnd → St → Prop} (h : ACalls E f args st R') (hr : ∀ x st1, R' x st1 → ∃ n st2, St.sub st2 st1 ∧ R (thE st1 st2 n x) st2) : ACalls E f args st R := by
  intro κ w cargs hR hargs
  refine CallsIn.mono (h κ w cargs hR hargs) ?_
  rintro e w' ⟨κ', x, st1, hle, hR', he, hq⟩
  obtain ⟨n, st2, hs, hq2⟩ := hr x st1 hq
  refine ⟨κ'.freeze st1 st2 w', _, st2, hle.trans (K.le_freeze hR' st2), hR'.freeze hs, ?_, hq2⟩
  cases x with
  | ret v => obtain ⟨cv, rfl, hv⟩ := he; exact ⟨cv, rfl, th_ok hR' hs n v cv hv⟩
  | panic v => obtain ⟨cv, rfl, hv⟩ := he; exact ⟨cv, rfl, th_ok hR' hs n v cv hv⟩

end
end Go.Abs
