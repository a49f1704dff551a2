/- THE ABSTRACT MEMORY (part 1): values as trees, blocks that a walk owns, and how they stand to the machine's. -/
import Derived.RangeFuncLeaves
import Derived.RangeFuncCalls
import Derived.Below
import Derived.WalkKit
namespace Go.Abs
open Go.RowKit

/-- A value as the proof sees it. -/
inductive AV where
  | bool (b : Bool)
  | int (k : IntKind) (n : Int)
  | str (s : List UInt8)
  | nilp | nils | nilm | nilf | nili
  /-- a pointer into a block that the walk owns: cell f of element i -/
  | ptr (id g i f : Nat)
  /-- a pointer into memory that never changes: the cells from there on -/
  | fptr (cells : List AV)
  /-- a slice over a block that the walk owns -/
  | arr (id g sz off len : Nat)
  /-- a slice over memory that never changes -/
  | tree (sz : Nat) (elems : List (List AV))
  | agg (cells : List AV)
  | tup (vs : List AV)
  | clo (fn : Fn) (first caps : List AV)
  | iface (t : TypeId) (v : AV)
  | ref (id : Nat)
  | yld (id : Nat)
  /-- v, if b; else nothing -/
  | opt (b : Bool) (v : AV)
  | junk
  deriving Inhabited

structure Loc where
  gen : Nat
  b : Nat
  cap : Nat
  sz : Nat

/-- What ties the proof's memory to the machine's: where each block lies; what is frozen; what was there at the start. -/
structure K where
  loc : Nat → Option Loc
  fz : Nat → Nat → Option Value
  n0 : Nat
  w0 : World

structure K.Le (κ κ' : K) : Prop where
  loc : ∀ id L, κ.loc id = some L → ∃ L', κ'.loc id = some L' ∧ L.gen ≤ L'.gen ∧ (L'.gen = L.gen → L' = L) ∧ L'.sz = L.sz
  fz : ∀ b o v, κ.fz b o = some v → κ'.fz b o = some v
  n0 : κ'.n0 = κ.n0
  w0 : κ'.w0 = κ.w0

theorem K.Le.refl (κ : K) : K.Le κ κ := ⟨fun _ L h => ⟨L, h, Nat.le_refl _, fun _ => rfl, rfl⟩, fun _ _ _ h => h, rfl, rfl⟩

theorem K.Le.trans {a b c : K} (h : K.Le a b) (k : K.Le b c) : K.Le a c := by
  refine ⟨fun id L hL => ?_, fun x o v hv => k.fz _ _ _ (h.fz _ _ _ hv), k.n0.trans h.n0, k.w0.trans h.w0⟩
  obtain ⟨L1, h1, g1, e1, s1⟩ := h.loc id L hL
  obtain ⟨L2, h2, g2, e2, s2⟩ := k.loc id L1 h1
  refine ⟨L2, h2, Nat.le_trans g1 g2, fun e => ?_, s2.trans s1⟩
  have hg : L1.gen = L.gen := by omega
  have hL1 := e1 hg
  subst hL1
  exact e2 (by omega)

mutual
def VR (κ : K) : AV → Value → Prop
  | .bool b, v => v = .bool b
  | .int k n, v => v = .int k n
  | .str s, v => v = .string ⟨s.toArray⟩
  | .nilp, v => v = .pointer none
  | .nils, v => v = .slice none 0 0
  | .nilm, v => v = .map none
  | .nilf, v => v = .nilFunc
  | .nili, v => v = .nilIface
  | .ptr id g i f, v => ∃ a L, v = .pointer (some a) ∧ κ.loc id = some L ∧ g ≤ L.gen ∧ (L.gen = g → a = ⟨L.b, i * L.sz + f, none⟩)
  | .fptr cells, v => ∃ b o, v = .pointer (some ⟨b, o, none⟩) ∧ VRF κ (κ.fz b) cells o
  | .arr id g sz off len, v => ∃ a cap L, v = .slice (some a) len cap ∧ (a.spot = none ∧ len ≤ cap) ∧ κ.loc id = some L ∧ L.sz = sz ∧ g ≤ L.gen ∧
      (L.gen = g → (a = ⟨L.b, off * sz, none⟩ ∧ cap = L.cap - off ∧ off + len ≤ L.cap) ∨ (len = 0 ∧ cap = 0))
  | .tree sz es, v => ∃ b o cap, v = .slice (some ⟨b, o, none⟩) es.length cap ∧ es.length ≤ cap ∧ VRE κ (κ.fz b) sz es o
  | .agg cs, v => ∃ vs, v = .agg vs ∧ VRs κ cs vs.toList
  | .tup cs, v => ∃ vs, v = .tuple vs ∧ VRs κ cs vs.toList
  | .clo fn fi ca, v => ∃ a b, v = .func fn a b ∧ VRs κ fi a.toList ∧ VRs κ ca b.toList
  | .iface t x, v => ∃ y, v = .iface t y ∧ VR κ x y
  | .ref id, v => ∃ L b, κ.loc id = some L ∧ v = .map (some b) ∧ (L.gen = 0 → b = L.b)
  | .opt b x, v => (b = true → VR κ x v) ∧ (b = false → v = .tuple #[])
  | .junk, _ => True
  | .yld id, v => ∃ L b, κ.loc id = some L ∧ v = .func (.yield b) #[] #[] ∧ (L.gen = 0 → b = L.b)
def VRs (κ : K) : List AV → List Value → Prop
  | [], vs => vs = []
  | a :: as, vs => ∃ v vs', vs = v :: vs' ∧ VR κ a v ∧ VRs κ as vs'
/-- The cells from o on, as 'rd' reads them. -/
def VRF (κ : K) (rd : Nat → Option Value) : List AV → Nat → Prop
  | [], _ => True
  | c :: cs, o => (∃ v, rd o = some v ∧ VR κ c v) ∧ VRF κ rd cs (o + 1)
/-- The elements from o on, each of sz cells. -/
def VRE (κ : K) (rd : Nat → Option Value) (sz : Nat) : List (List AV) → Nat → Prop
  | [], _ => True
  | e :: es, o => e.length = sz ∧ VRF κ rd e o ∧ VRE κ rd sz es (o + sz)
end


set_option linter.unusedSectionVars false
section mono
variable {κ κ' : K} (h : K.Le κ κ')
include h
mutual
theorem VR.mono : ∀ (v : AV) (cv : Value), VR κ v cv → VR κ' v cv
  | .bool _, _, hv | .int _ _, _, hv | .str _, _, hv | .nilp, _, hv | .nils, _, hv | .nilm, _, hv | .nilf, _, hv | .nili, _, hv => by simpa only [VR] using hv
  | .ptr id g i f, _, hv => by
    simp only [VR] at hv ⊢
    obtain ⟨a, L, rfl, hL, hg, ha⟩ := hv
    obtain ⟨L', hL', g1, e1, s1⟩ := h.loc id L hL
    refine ⟨a, L', rfl, hL', by omega, fun e => ?_⟩
    have hLL := e1 (by omega)
    subst hLL
    exact ha e
  | .fptr cells, _, hv => by
    simp only [VR] at hv ⊢
    obtain ⟨b, o, rfl, hc⟩ := hv
    exact ⟨b, o, rfl, VRF.mono cells _ _ (fun o v => h.fz b o v) o hc⟩
  | .arr id g sz off len, _, hv => by
    simp only [VR] at hv ⊢
    obtain ⟨a, cap, L, rfl, hlc, hL, hs, hg, ha⟩ := hv
    obtain ⟨L', hL', g1, e1, s1⟩ := h.loc id L hL
    refine ⟨a, cap, L', rfl, hlc, hL', s1.trans hs, by omega, fun e => ?_⟩
    have hLL := e1 (by omega)
    subst hLL
    exact ha e
  | .tree sz es, _, hv => by
    simp only [VR] at hv ⊢
    obtain ⟨b, o, cap, rfl, hlc, hc⟩ := hv
    exact ⟨b, o, cap, rfl, hlc, VRE.mono sz es _ _ (fun o v => h.fz b o v) o hc⟩
  | .agg cs, _, hv => by
    simp only [VR] at hv ⊢
    obtain ⟨vs, rfl, hc⟩ := hv
    exact ⟨vs, rfl, VRs.mono cs _ hc⟩
  | .tup cs, _, hv => by
    simp only [VR] at hv ⊢
    obtain ⟨vs, rfl, hc⟩ := hv
    exact ⟨vs, rfl, VRs.mono cs _ hc⟩
  | .clo fn fi ca, _, hv => by
    simp only [VR] at hv ⊢
    obtain ⟨a, b, rfl, h1, h2⟩ := hv
    exact ⟨a, b, rfl, VRs.mono fi _ h1, VRs.mono ca _ h2⟩
  | .iface t x, _, hv => by
    simp only [VR] at hv ⊢
    obtain ⟨y, rfl, h1⟩ := hv
    exact ⟨y, rfl, VR.mono x _ h1⟩
  | .ref id, _, hv => by
    simp only [VR] at hv ⊢
    obtain ⟨L, b, hL, rfl, hb⟩ := hv
    obtain ⟨L', hL', g1, e1, s1⟩ := h.loc id L hL
    exact ⟨L', b, hL', rfl, fun e => by have := e1 (by omega); subst this; exact hb e⟩
  | .opt b x, _, hv => by
    simp only [VR] at hv ⊢
    exact ⟨fun e => VR.mono x _ (hv.1 e), hv.2⟩
  | .junk, _, _ => by simp only [VR]
  | .yld id, _, hv => by
    simp only [VR] at hv ⊢
    obtain ⟨L, b, hL, rfl, hb⟩ := hv
    obtain ⟨L', hL', g1, e1, s1⟩ := h.loc id L hL
    exact ⟨L', b, hL', rfl, fun e => by have := e1 (by omega); subst this; exact hb e⟩
theorem VRs.mono : ∀ (v : List AV) (cv : List Value), VRs κ v cv → VRs κ' v cv
  | [], _, hv => by simpa only [VRs] using hv
  | a :: as, _, hv => by
    simp only [VRs] at hv ⊢
    obtain ⟨v, vs, rfl, h1, h2⟩ := hv
    exact ⟨v, vs, rfl, VR.mono a _ h1, VRs.mono as _ h2⟩
theorem VRF.mono : ∀ (v : List AV) (rd rd' : Nat → Option Value) (_ : ∀ o v, rd o = some v → rd' o = some v) (o : Nat), VRF κ rd v o → VRF κ' rd' v o
  | [], _, _, _, _, _ => by simp only [VRF]
  | a :: as, rd, rd', hr, o, hv => by
    simp only [VRF] at hv ⊢
    obtain ⟨⟨v, hv, h1⟩, h2⟩ := hv
    exact ⟨⟨v, hr _ _ hv, VR.mono a _ h1⟩, VRF.mono as _ _ hr _ h2⟩
theorem VRE.mono : ∀ (sz : Nat) (v : List (List AV)) (rd rd' : Nat → Option Value) (_ : ∀ o v, rd o = some v → rd' o = some v) (o : Nat), VRE κ rd sz v o → VRE κ' rd' sz v o
  | _, [], _, _, _, _, _ => by simp only [VRE]
  | sz, a :: as, rd, rd', hr, o, hv => by
    simp only [VRE] at hv ⊢
    obtain ⟨h0, h1, h2⟩ := hv
    exact ⟨h0, VRF.mono a _ _ hr _ h1, VRE.mono sz as _ _ hr _ h2⟩
end
end mono

/-! ### Blocks, and the state -/

inductive Blk where
  | cells (gen sz : Nat) (elems : List (List AV))
  | loop (s : LoopState) (pend : Option Code) (fn : FuncId) (tm : List AV) (ps : Array Tmp) (assign body : Code) (d : Nat)
  | dfr (live : Bool)
  | siter (s : List UInt8) (pos : Nat)

abbrev St := Nat → Option Blk
def St.set (st : St) (id : Nat) (b : Blk) : St := fun i => if i = id then some b else st i
@[simp] theorem St.set_same (st : St) (id : Nat) (b : Blk) : st.set id b id = some b := by simp [St.set]
theorem St.set_ne (st : St) {id i : Nat} (b : Blk) (h : i ≠ id) : st.set id b i = st i := by simp [St.set, h]
@[simp] theorem St.set_set (st : St) (id : Nat) (b c : Blk) : (st.set id b).set id c = st.set id c := by funext i; simp only [St.set]; split <;> rfl
theorem St.set_comm (st : St) {i j : Nat} (b c : Blk) (h : i ≠ j) : (st.set i b).set j c = (st.set j c).set i b := by
  funext k; simp only [St.set]; split
  · rename_i e; subst e; rw [if_neg (Ne.symm h)]
  · rfl
theorem St.set_self (st : St) {i : Nat} {b : Blk} (h : st i = some b) : st.set i b = st := by
  funext k; simp only [St.set]; split
  · rename_i e; subst e; exact h.symm
  · rfl

/-- The temporaries. -/
abbrev TR (κ : K) (tm : List AV) (tmps : Array Value) : Prop := VRs κ tm tmps.toList

def BR (κ : K) (w : World) (L : Loc) : Blk → Prop
  | .cells g sz es => L.gen = g ∧ L.sz = sz ∧ es.length ≤ L.cap ∧ L.cap ≤ maxLen ∧ ∃ c t fr, w.heap[L.b]? = some (.cells c t fr) ∧ L.cap * sz ≤ c.size ∧
      (∀ o, o < L.cap * sz → (decide (fr.1 ≤ o) && decide (o < fr.2)) = false) ∧ VRE κ (fun o => c[o]?) sz es 0
  | .loop s pend fn tm ps assign body d => L.gen = 0 ∧ ∃ tmps D b, TR κ tm tmps ∧ κ.loc d = some D ∧ (D.gen = 0 → b = D.b) ∧
      w.heap[L.b]? = some (.loop { state := s, pending := pend, fn, tmps, params := ps, assign, body, defers := b })
  | .dfr live => L.gen = 0 ∧ w.heap[L.b]? = some (.deferred (if live then some [] else none))
  | .siter s pos => L.gen = 0 ∧ w.heap[L.b]? = some (.stringIter ⟨s.toArray⟩ pos)

theorem BR.keep {κ κ' : K} {w w' : World} {L : Loc} {B : Blk} (h : K.Le κ κ') (hw : w'.heap[L.b]? = w.heap[L.b]?) (hb : BR κ w L B) : BR κ' w' L B := by
  cases B with
  | cells g sz es =>
    obtain ⟨h1, h2, h3, hm, c, t, fr, h4, h5, h6, h7⟩ := hb
    exact ⟨h1, h2, h3, hm, c, t, fr, hw.trans h4, h5, h6, VRE.mono h sz es _ _ (fun _ _ e => e) 0 h7⟩
  | loop s pend fn tm ps assign body d =>
    obtain ⟨h1, tmps, D, b, h2, h3, h4, h5⟩ := hb
    obtain ⟨D', hD', g1, e1, s1⟩ := h.loc d D h3
    exact ⟨h1, tmps, D', b, VRs.mono h _ _ h2, hD', fun e => by have := e1 (by omega); subst this; exact h4 e, hw.trans h5⟩
  | dfr live => exact ⟨hb.1, hw.trans hb.2⟩
  | siter s pos => exact ⟨hb.1, hw.trans hb.2⟩

structure Env where
  P : Program
  G : Nat → AV

structure Rel (E : Env) (κ : K) (st : St) (w : World) : Prop where
  dom : ∀ id B, st id = some B → ∃ L, κ.loc id = some L ∧ BR κ w L B ∧ κ.n0 ≤ L.b ∧ L.b < w.heap.size
  inj : ∀ id id' L L', (st id).isSome → (st id').isSome → κ.loc id = some L → κ.loc id' = some L' → L.b = L'.b → id = id'
  fzw : ∀ b o v, κ.fz b o = some v → w.cell? ⟨b, o, none⟩ = some v
  sep : ∀ id L o, (st id).isSome → κ.loc id = some L → κ.fz L.b o = none
  bnd : ∃ N, ∀ id, N ≤ id → κ.loc id = none
  bel : Below κ.n0 κ.w0 w
  n0 : κ.n0 ≤ w.heap.size
  glob : ∀ g, VR κ (E.G g) (.pointer (some ⟨g, 0, none⟩))

def K.set (κ : K) (id : Nat) (L : Loc) : K := { κ with loc := fun i => if i = id then some L else κ.loc i }
@[simp] theorem K.set_same (κ : K) (id : Nat) (L : Loc) : (κ.set id L).loc id = some L := by simp [K.set]
theorem K.set_ne (κ : K) {id i : Nat} (L : Loc) (h : i ≠ id) : (κ.set id L).loc i = κ.loc i := by simp [K.set, h]

theorem K.le_set {κ : K} {id : Nat} {L : Loc} (h : ∀ L0, κ.loc id = some L0 → L0.gen ≤ L.gen ∧ (L.gen = L0.gen → L = L0) ∧ L.sz = L0.sz) : K.Le κ (κ.set id L) := by
  refine ⟨fun i L0 h0 => ?_, fun _ _ _ h => h, rfl, rfl⟩
  by_cases e : i = id
  · subst e; exact ⟨L, by simp, h L0 h0⟩
  · exact ⟨L0, by rw [K.set_ne _ _ e]; exact h0, Nat.le_refl _, fun _ => rfl, rfl⟩

/-- One block is laid anew (where L lies beyond the heap), or written, or grown: all else stays. -/
theorem Rel.put {E : Env} {κ : K} {st : St} {w w' : World} {id : Nat} {L : Loc} {B : Blk} (h : Rel E κ st w)
    (hle : ∀ L0, κ.loc id = some L0 → L0.gen ≤ L.gen ∧ (L.gen = L0.gen → L = L0) ∧ L.sz = L0.sz)
    (hg : w.grownBy w' (some L.b))
    (hb : BR (κ.set id L) w' L B) (hlt : L.b < w'.heap.size)
    (hpl : (∃ L0, (st id).isSome ∧ κ.loc id = some L0 ∧ L0.b = L.b) ∨ w.heap.size ≤ L.b) : Rel E (κ.set id L) (st.set id B) w' := by
  have hK : K.Le κ (κ.set id L) := K.le_set hle
  have hown : κ.n0 ≤ L.b := by
    rcases hpl with ⟨L0, hs, hl, e⟩ | hp
    · obtain ⟨B0, hB0⟩ := Option.isSome_iff_exists.1 hs
      obtain ⟨L1, h1, _, h2, _⟩ := h.dom id B0 hB0
      rw [hl] at h1; cases h1; omega
    · have := h.n0; omega
  have hother : ∀ i Bi, i ≠ id → st i = some Bi → ∃ Li, κ.loc i = some Li ∧ BR κ w Li Bi ∧ κ.n0 ≤ Li.b ∧ Li.b < w.heap.size ∧ Li.b ≠ L.b := by
    intro i Bi hne hi
    obtain ⟨Li, h1, h2, h3, h4⟩ := h.dom i Bi hi
    refine ⟨Li, h1, h2, h3, h4, fun e => ?_⟩
    rcases hpl with ⟨L0, hs, hl, e0⟩ | hp
    · exact hne (h.inj i id Li L0 (by simp [hi]) hs h1 hl (by omega))
    · omega
  refine ⟨?_, ?_, ?_, ?_, ?_, ?_, Nat.le_trans h.n0 hg.size, fun g => VR.mono hK _ _ (h.glob g)⟩
  · intro i Bi hi
    by_cases e : i = id
    · subst e
      rw [St.set_same] at hi; cases hi
      exact ⟨L, by simp, hb, hown, hlt⟩
    · rw [St.set_ne _ _ e] at hi
      obtain ⟨Li, h1, h2, h3, h4, h5⟩ := hother i Bi e hi
      exact ⟨Li, by rw [K.set_ne _ _ e]; exact h1, h2.keep hK (hg.block _ h4 (by simp only [ne_eq, Option.some.injEq]; exact h5)), h3, Nat.lt_of_lt_of_le h4 hg.size⟩
  · intro i j Li Lj hi hj hLi hLj hbb
    by_cases e : i = id
    · subst e
      rw [K.set_same] at hLi; cases hLi
      by_cases e' : j = i
      · exact e'.symm
      · rw [St.set_ne _ _ e'] at hj
        rw [K.set_ne _ _ e'] at hLj
        obtain ⟨Bj, hBj⟩ := Option.isSome_iff_exists.1 hj
        obtain ⟨Lj', h1, _, _, _, h5⟩ := hother j Bj e' hBj
        rw [hLj] at h1; cases h1
        exact absurd hbb.symm h5
    · rw [St.set_ne _ _ e] at hi
      rw [K.set_ne _ _ e] at hLi
      obtain ⟨Bi, hBi⟩ := Option.isSome_iff_exists.1 hi
      obtain ⟨Li', h1, _, _, _, h5⟩ := hother i Bi e hBi
      rw [hLi] at h1; cases h1
      by_cases e' : j = id
      · subst e'
        rw [K.set_same] at hLj; cases hLj
        exact absurd hbb h5
      · rw [St.set_ne _ _ e'] at hj
        rw [K.set_ne _ _ e'] at hLj
        exact h.inj i j Li Lj hi hj hLi hLj hbb
  · intro b o v hv
    have hv0 : κ.fz b o = some v := hv
    have hc := h.fzw b o v hv0
    have hlt := World.block_lt_of_cell? w _ hc
    have hne : b ≠ L.b := by
      rcases hpl with ⟨L0, hs, hl, e0⟩ | hp
      · intro e
        have := h.sep id L0 o hs hl
        rw [e0, ← e, hv0] at this
        cases this
      · intro e; simp only at hlt; omega
    exact hg.cell hc (by simp only [ne_eq, Option.some.injEq]; exact hne)
  · intro i Li o hi hLi
    show κ.fz Li.b o = none
    by_cases e : i = id
    · subst e
      rw [K.set_same] at hLi; cases hLi
      rcases hpl with ⟨L0, hs, hl, e0⟩ | hp
      · rw [← e0]; exact h.sep i L0 o hs hl
      · cases hf : κ.fz L.b o with
        | none => rfl
        | some v =>
          have := World.block_lt_of_cell? w _ (h.fzw L.b o v hf)
          simp only at this; omega
    · rw [St.set_ne _ _ e] at hi
      rw [K.set_ne _ _ e] at hLi
      exact h.sep i Li o hi hLi
  · obtain ⟨N, hN⟩ := h.bnd
    refine ⟨max N (id + 1), fun i hi => ?_⟩
    rw [K.set_ne _ _ (by omega)]
    exact hN i (by omega)
  · exact h.bel.grown hg h.n0 (fun k e => by cases e; exact hown)

/-- Blocks may be forgotten. -/
theorem Rel.forget {E : Env} {κ : K} {st st' : St} {w : World} (h : Rel E κ st w) (hs : ∀ id B, st' id = some B → st id = some B) : Rel E κ st' w := by
  have hss : ∀ id, (st' id).isSome → (st id).isSome := fun id hi => by
    obtain ⟨B, hB⟩ := Option.isSome_iff_exists.1 hi
    rw [hs id B hB]; rfl
  exact ⟨fun id B hB => h.dom id B (hs id B hB), fun i j Li Lj hi hj => h.inj i j Li Lj (hss i hi) (hss j hj), h.fzw, fun i L o hi => h.sep i L o (hss i hi), h.bnd, h.bel, h.n0, h.glob⟩

/-- A world that has only drawn. -/
theorem Rel.drew {E : Env} {κ : K} {st : St} {w : World} (h : Rel E κ st w) : Rel E κ st w.drew :=
  ⟨fun id B hB => let ⟨L, h1, h2, h3, h4⟩ := h.dom id B hB; ⟨L, h1, h2.keep (K.Le.refl κ) rfl, h3, h4⟩, h.inj, h.fzw, h.sep, h.bnd, h.bel.drew, h.n0, h.glob⟩

/-- A fresh name. -/
theorem Rel.fresh {E : Env} {κ : K} {st : St} {w : World} (h : Rel E κ st w) : ∃ id, κ.loc id = none ∧ st id = none := by
  obtain ⟨N, hN⟩ := h.bnd
  refine ⟨N, hN N (Nat.le_refl _), ?_⟩
  cases hs : st N with
  | none => rfl
  | some B =>
    obtain ⟨L, h1, _⟩ := h.dom N B hs
    rw [hN N (Nat.le_refl _)] at h1; cases h1

/-- A new block. -/
theorem Rel.alloc {E : Env} {κ : K} {st : St} {w : World} (h : Rel E κ st w) {id : Nat} (hid : κ.loc id = none) {o : Obj} {g cap sz : Nat} {B : Blk}
    (hb : BR (κ.set id ⟨g, w.heap.size, cap, sz⟩) (w.alloc o) ⟨g, w.heap.size, cap, sz⟩ B) : Rel E (κ.set id ⟨g, w.heap.size, cap, sz⟩) (st.set id B) (w.alloc o) ∧ K.Le κ (κ.set id ⟨g, w.heap.size, cap, sz⟩) := by
  have hle : ∀ L0, κ.loc id = some L0 → L0.gen ≤ (⟨g, w.heap.size, cap, sz⟩ : Loc).gen ∧ ((⟨g, w.heap.size, cap, sz⟩ : Loc).gen = L0.gen → (⟨g, w.heap.size, cap, sz⟩ : Loc) = L0) ∧ (⟨g, w.heap.size, cap, sz⟩ : Loc).sz = L0.sz := fun L0 h0 => by rw [hid] at h0; cases h0
  exact ⟨h.put hle (World.grownBy_alloc w o _) hb (by simp) (.inr (Nat.le_refl _)), K.le_set hle⟩

end Go.Abs
