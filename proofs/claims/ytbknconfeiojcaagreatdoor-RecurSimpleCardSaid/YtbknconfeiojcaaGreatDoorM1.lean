/- THE ABSTRACT MEMORY (part 13): slices that grow. -/
import Derived.RangeFuncLeaves
import Derived.RangeFuncCalls
import Derived.Below
import Derived.WalkKit
import Derived.Lib.Strings
import Derived.Lib.SmallJoins
import Derived.Lib.ConvBytes
import Derived.ArgAppend
set_option linter.unusedSimpArgs false
set_option linter.unusedVariables false
set_option linter.unusedSectionVars false
set_option maxRecDepth 10000
set_option maxHeartbeats 1000000
/- THE ABSTRACT MEMORY (part 1): values as trees, blocks that a walk owns, and how they stand to the machine's. -/
namespace Go.Abs
open Go.RowKit
inductive AV where
  | bool (b : Bool)
  | int (k : IntKind) (n : Int)
  | str (s : List UInt8)
  | nilp | nils | nilm | nilf | nili
  /-- a pointer into a block that the walk owns: cell f of element i -/
  | ptr (id g i f : Nat)
  /-- a pointer into memory that never changes: the cells from there on -/
  | fptr (cells : List AV)
  /-- a slice over a block that the walk owns -/
  | arr (id g sz off len : Nat)
  /-- a slice over memory that never changes -/
  | tree (sz : Nat) (elems : List (List AV))
  | agg (cells : List AV)
  | tup (vs : List AV)
  | clo (fn : Fn) (first caps : List AV)
  | iface (t : TypeId) (v : AV)
  | ref (id : Nat)
  | yld (id : Nat)
  /-- v, if b; else nothing -/
  | opt (b : Bool) (v : AV)
  | junk
  deriving Inhabited
structure Loc where
  gen : Nat
  b : Nat
  cap : Nat
  sz : Nat
structure K where
  loc : Nat → Option Loc
  fz : Nat → Nat → Option Value
  n0 : Nat
  w0 : World
structure K.Le (κ κ' : K) : Prop where
  loc : ∀ id L, κ.loc id = some L → ∃ L', κ'.loc id = some L' ∧ L.gen ≤ L'.gen ∧ (L'.gen = L.gen → L' = L) ∧ L'.sz = L.sz
  fz : ∀ b o v, κ.fz b o = some v → κ'.fz b o = some v
  n0 : κ'.n0 = κ.n0
  w0 : κ'.w0 = κ.w0
theorem K.Le.refl (κ : K) : K.Le κ κ := ⟨fun _ L h => ⟨L, h, Nat.le_refl _, fun _ => rfl, rfl⟩, fun _ _ _ h => h, rfl, rfl⟩
theorem K.Le.trans {a b c : K} (h : K.Le a b) (k : K.Le b c) : K.Le a c := by
  refine ⟨fun id L hL => ?_, fun x o v hv => k.fz _ _ _ (h.fz _ _ _ hv), k.n0.trans h.n0, k.w0.trans h.w0⟩
  obtain ⟨L1, h1, g1, e1, s1⟩ := h.loc id L hL
  obtain ⟨L2, h2, g2, e2, s2⟩ := k.loc id L1 h1
  refine ⟨L2, h2, Nat.le_trans g1 g2, fun e => ?_, s2.trans s1⟩
  have hg : L1.gen = L.gen := by omega
  have hL1 := e1 hg
  subst hL1
  exact e2 (by omega)
mutual
def VR (κ : K) : AV → Value → Prop
  | .bool b, v => v = .bool b
  | .int k n, v => v = .int k n
  | .str s, v => v = .string ⟨s.toArray⟩
  | .nilp, v => v = .pointer none
  | .nils, v => v = .slice none 0 0
  | .nilm, v => v = .map none
  | .nilf, v => v = .nilFunc
  | .nili, v => v = .nilIface
  | .ptr id g i f, v => ∃ a L, v = .pointer (some a) ∧ κ.loc id = some L ∧ g ≤ L.gen ∧ (L.gen = g → a = ⟨L.b, i * L.sz + f, none⟩)
  | .fptr cells, v => ∃ b o, v = .pointer (some ⟨b, o, none⟩) ∧ VRF κ (κ.fz b) cells o
  | .arr id g sz off len, v => ∃ a cap L, v = .slice (some a) len cap ∧ (a.spot = none ∧ len ≤ cap) ∧ κ.loc id = some L ∧ L.sz = sz ∧ g ≤ L.gen ∧
      (L.gen = g → (a = ⟨L.b, off * sz, none⟩ ∧ cap = L.cap - off ∧ off + len ≤ L.cap) ∨ (len = 0 ∧ cap = 0))
  | .tree sz es, v => (es = [] ∧ v = .slice none 0 0) ∨ ∃ a cap, v = .slice (some a) es.length cap ∧ es.length ≤ cap ∧ (es = [] ∨ a.spot = none) ∧ VRE κ (κ.fz a.block) sz es a.off
  | .agg cs, v => ∃ vs, v = .agg vs ∧ VRs κ cs vs.toList
  | .tup cs, v => ∃ vs, v = .tuple vs ∧ VRs κ cs vs.toList
  | .clo fn fi ca, v => ∃ a b, v = .func fn a b ∧ VRs κ fi a.toList ∧ VRs κ ca b.toList
  | .iface t x, v => ∃ y, v = .iface t y ∧ VR κ x y
  | .ref id, v => ∃ L b, κ.loc id = some L ∧ v = .map (some b) ∧ (L.gen = 0 → b = L.b)
  | .opt b x, v => (b = true → VR κ x v) ∧ (b = false → v = .tuple #[])
  | .junk, _ => True
  | .yld id, v => ∃ L b, κ.loc id = some L ∧ v = .func (.yield b) #[] #[] ∧ (L.gen = 0 → b = L.b)
def VRs (κ : K) : List AV → List Value → Prop
  | [], vs => vs = []
  | a :: as, vs => ∃ v vs', vs = v :: vs' ∧ VR κ a v ∧ VRs κ as vs'
def VRF (κ : K) (rd : Nat → Option Value) : List AV → Nat → Prop
  | [], _ => True
  | c :: cs, o => (∃ v, rd o = some v ∧ VR κ c v) ∧ VRF κ rd cs (o + 1)
def VRE (κ : K) (rd : Nat → Option Value) (sz : Nat) : List (List AV) → Nat → Prop
  | [], _ => True
  | e :: es, o => e.length = sz ∧ VRF κ rd e o ∧ VRE κ rd sz es (o + sz)
end
section mono
variable {κ κ' : K} (h : K.Le κ κ')
include h
mutual
theorem VR.mono : ∀ (v : AV) (cv : Value), VR κ v cv → VR κ' v cv
  | .bool _, _, hv | .int _ _, _, hv | .str _, _, hv | .nilp, _, hv | .nils, _, hv | .nilm, _, hv | .nilf, _, hv | .nili, _, hv => by simpa only [VR] using hv
  | .ptr id g i f, _, hv => by
    simp only [VR] at hv ⊢
    obtain ⟨a, L, rfl, hL, hg, ha⟩ := hv
    obtain ⟨L', hL', g1, e1, s1⟩ := h.loc id L hL
    refine ⟨a, L', rfl, hL', by omega, fun e => ?_⟩
    have hLL := e1 (by omega)
    subst hLL
    exact ha e
  | .fptr cells, _, hv => by
    simp only [VR] at hv ⊢
    obtain ⟨b, o, rfl, hc⟩ := hv
    exact ⟨b, o, rfl, VRF.mono cells _ _ (fun o v => h.fz b o v) o hc⟩
  | .arr id g sz off len, _, hv => by
    simp only [VR] at hv ⊢
    obtain ⟨a, cap, L, rfl, hlc, hL, hs, hg, ha⟩ := hv
    obtain ⟨L', hL', g1, e1, s1⟩ := h.loc id L hL
    refine ⟨a, cap, L', rfl, hlc, hL', s1.trans hs, by omega, fun e => ?_⟩
    have hLL := e1 (by omega)
    subst hLL
    exact ha e
  | .tree sz es, _, hv => by
    simp only [VR] at hv ⊢
    rcases hv with hv | ⟨a, cap, rfl, hlc, hsp, hc⟩
    · exact .inl hv
    exact .inr ⟨a, cap, rfl, hlc, hsp, VRE.mono sz es _ _ (fun o v => h.fz a.block o v) _ hc⟩
  | .agg cs, _, hv => by
    simp only [VR] at hv ⊢
    obtain ⟨vs, rfl, hc⟩ := hv
    exact ⟨vs, rfl, VRs.mono cs _ hc⟩
  | .tup cs, _, hv => by
    simp only [VR] at hv ⊢
    obtain ⟨vs, rfl, hc⟩ := hv
    exact ⟨vs, rfl, VRs.mono cs _ hc⟩
  | .clo fn fi ca, _, hv => by
    simp only [VR] at hv ⊢
    obtain ⟨a, b, rfl, h1, h2⟩ := hv
    exact ⟨a, b, rfl, VRs.mono fi _ h1, VRs.mono ca _ h2⟩
  | .iface t x, _, hv => by
    simp only [VR] at hv ⊢
    obtain ⟨y, rfl, h1⟩ := hv
    exact ⟨y, rfl, VR.mono x _ h1⟩
  | .ref id, _, hv => by
    simp only [VR] at hv ⊢
    obtain ⟨L, b, hL, rfl, hb⟩ := hv
    obtain ⟨L', hL', g1, e1, s1⟩ := h.loc id L hL
    exact ⟨L', b, hL', rfl, fun e => by have := e1 (by omega); subst this; exact hb e⟩
  | .opt b x, _, hv => by
    simp only [VR] at hv ⊢
    exact ⟨fun e => VR.mono x _ (hv.1 e), hv.2⟩
  | .junk, _, _ => by simp only [VR]
  | .yld id, _, hv => by
    simp only [VR] at hv ⊢
    obtain ⟨L, b, hL, rfl, hb⟩ := hv
    obtain ⟨L', hL', g1, e1, s1⟩ := h.loc id L hL
    exact ⟨L', b, hL', rfl, fun e => by have := e1 (by omega); subst this; exact hb e⟩
theorem VRs.mono : ∀ (v : List AV) (cv : List Value), VRs κ v cv → VRs κ' v cv
  | [], _, hv => by simpa only [VRs] using hv
  | a :: as, _, hv => by
    simp only [VRs] at hv ⊢
    obtain ⟨v, vs, rfl, h1, h2⟩ := hv
    exact ⟨v, vs, rfl, VR.mono a _ h1, VRs.mono as _ h2⟩
theorem VRF.mono : ∀ (v : List AV) (rd rd' : Nat → Option Value) (_ : ∀ o v, rd o = some v → rd' o = some v) (o : Nat), VRF κ rd v o → VRF κ' rd' v o
  | [], _, _, _, _, _ => by simp only [VRF]
  | a :: as, rd, rd', hr, o, hv => by
    simp only [VRF] at hv ⊢
    obtain ⟨⟨v, hv, h1⟩, h2⟩ := hv
    exact ⟨⟨v, hr _ _ hv, VR.mono a _ h1⟩, VRF.mono as _ _ hr _ h2⟩
theorem VRE.mono : ∀ (sz : Nat) (v : List (List AV)) (rd rd' : Nat → Option Value) (_ : ∀ o v, rd o = some v → rd' o = some v) (o : Nat), VRE κ rd sz v o → VRE κ' rd' sz v o
  | _, [], _, _, _, _, _ => by simp only [VRE]
  | sz, a :: as, rd, rd', hr, o, hv => by
    simp only [VRE] at hv ⊢
    obtain ⟨h0, h1, h2⟩ := hv
    exact ⟨h0, VRF.mono a _ _ hr _ h1, VRE.mono sz as _ _ hr _ h2⟩
end
end mono
/-! ### Blocks, and the state -/
inductive Blk where
  | cells (t : TypeId) (gen sz : Nat) (elems : List (List AV))
  | loop (s : LoopState) (pend : Option Code) (fn : FuncId) (tm : List AV) (ps : Array Tmp) (assign body : Code) (d : Nat)
  | dfr (live : Bool)
  | siter (s : List UInt8) (pos : Nat)
  /-- a map with texts as keys -/
  | maps (es : List (List UInt8 × AV))
abbrev St := Nat → Option Blk
def St.set (st : St) (id : Nat) (b : Blk) : St := fun i => if i = id then some b else st i
@[simp] theorem St.set_same (st : St) (id : Nat) (b : Blk) : st.set id b id = some b := by simp [St.set]
theorem St.set_ne (st : St) {id i : Nat} (b : Blk) (h : i ≠ id) : st.set id b i = st i := by simp [St.set, h]
@[simp] theorem St.set_set (st : St) (id : Nat) (b c : Blk) : (st.set id b).set id c = st.set id c := by funext i; simp only [St.set]; split <;> rfl
theorem St.set_comm (st : St) {i j : Nat} (b c : Blk) (h : i ≠ j) : (st.set i b).set j c = (st.set j c).set i b := by
  funext k; simp only [St.set]; split
  · rename_i e; subst e; rw [if_neg (Ne.symm h)]
  · rfl
theorem St.set_self (st : St) {i : Nat} {b : Blk} (h : st i = some b) : st.set i b = st := by
  funext k; simp only [St.set]; split
  · rename_i e; subst e; exact h.symm
  · rfl
abbrev TR (κ : K) (tm : List AV) (tmps : Array Value) : Prop := VRs κ tm tmps.toList
def VRM (κ : K) : List (List UInt8 × AV) → List MapEntry → Prop
  | [], es => es = []
  | x :: r, es => ∃ e es', es = e :: es' ∧ e.key = .string ⟨x.1.toArray⟩ ∧ VR κ x.2 e.val ∧ VRM κ r es'
theorem VRM.mono {κ κ' : K} (h : K.Le κ κ') : ∀ (l : List (List UInt8 × AV)) (es : List MapEntry), VRM κ l es → VRM κ' l es
  | [], _, hv => hv
  | x :: l, _, hv => by
    obtain ⟨e, es', rfl, h1, h2, h3⟩ := hv
    exact ⟨e, es', rfl, h1, VR.mono h _ _ h2, VRM.mono h l _ h3⟩
def BR (κ : K) (w : World) (L : Loc) : Blk → Prop
  | .cells t g sz es => L.gen = g ∧ L.sz = sz ∧ es.length ≤ L.cap ∧ L.cap ≤ maxLen ∧ ∃ c fr, w.heap[L.b]? = some (.cells c t fr) ∧ c.size = L.cap * sz ∧
      (∀ o, o < L.cap * sz → (decide (fr.1 ≤ o) && decide (o < fr.2)) = false) ∧ VRE κ (fun o => c[o]?) sz es 0
  | .loop s pend fn tm ps assign body d => L.gen = 0 ∧ ∃ tmps D b, TR κ tm tmps ∧ κ.loc d = some D ∧ (D.gen = 0 → b = D.b) ∧
      w.heap[L.b]? = some (.loop { state := s, pending := pend, fn, tmps, params := ps, assign, body, defers := b })
  | .dfr live => L.gen = 0 ∧ w.heap[L.b]? = some (.deferred (if live then some [] else none))
  | .siter s pos => L.gen = 0 ∧ w.heap[L.b]? = some (.stringIter ⟨s.toArray⟩ pos)
  | .maps l => L.gen = 0 ∧ ∃ es c, w.heap[L.b]? = some (.map es c) ∧ VRM κ l es.toList
theorem BR.keep {κ κ' : K} {w w' : World} {L : Loc} {B : Blk} (h : K.Le κ κ') (hw : w'.heap[L.b]? = w.heap[L.b]?) (hb : BR κ w L B) : BR κ' w' L B := by
  cases B with
  | cells t g sz es =>
    obtain ⟨h1, h2, h3, hm, c, fr, h4, h5, h6, h7⟩ := hb
    exact ⟨h1, h2, h3, hm, c, fr, hw.trans h4, h5, h6, VRE.mono h sz es _ _ (fun _ _ e => e) 0 h7⟩
  | loop s pend fn tm ps assign body d =>
    obtain ⟨h1, tmps, D, b, h2, h3, h4, h5⟩ := hb
    obtain ⟨D', hD', g1, e1, s1⟩ := h.loc d D h3
    exact ⟨h1, tmps, D', b, VRs.mono h _ _ h2, hD', fun e => by have := e1 (by omega); subst this; exact h4 e, hw.trans h5⟩
  | dfr live => exact ⟨hb.1, hw.trans hb.2⟩
  | siter s pos => exact ⟨hb.1, hw.trans hb.2⟩
  | maps l =>
    obtain ⟨h1, es, c, h2, h3⟩ := hb
    exact ⟨h1, es, c, hw.trans h2, VRM.mono h _ _ h3⟩
structure Env where
  P : Program
  G : Nat → AV
  W : Nat → World → Prop
structure Rel (E : Env) (κ : K) (st : St) (w : World) : Prop where
  dom : ∀ id B, st id = some B → ∃ L, κ.loc id = some L ∧ BR κ w L B ∧ κ.n0 ≤ L.b ∧ L.b < w.heap.size
  inj : ∀ id id' L L', (st id).isSome → (st id').isSome → κ.loc id = some L → κ.loc id' = some L' → L.b = L'.b → id = id'
  fzw : ∀ b o v, κ.fz b o = some v → w.cell? ⟨b, o, none⟩ = some v
  sep : ∀ id L o, (st id).isSome → κ.loc id = some L → κ.fz L.b o = none
  bnd : ∃ N, ∀ id, N ≤ id → κ.loc id = none
  bel : Below κ.n0 κ.w0 w
  n0 : κ.n0 ≤ w.heap.size
  glob : ∀ g, VR κ (E.G g) (.pointer (some ⟨g, 0, none⟩))
  wf : E.W κ.n0 κ.w0
def K.set (κ : K) (id : Nat) (L : Loc) : K := { κ with loc := fun i => if i = id then some L else κ.loc i }
@[simp] theorem K.set_same (κ : K) (id : Nat) (L : Loc) : (κ.set id L).loc id = some L := by simp [K.set]
theorem K.set_ne (κ : K) {id i : Nat} (L : Loc) (h : i ≠ id) : (κ.set id L).loc i = κ.loc i := by simp [K.set, h]
theorem K.le_set {κ : K} {id : Nat} {L : Loc} (h : ∀ L0, κ.loc id = some L0 → L0.gen ≤ L.gen ∧ (L.gen = L0.gen → L = L0) ∧ L.sz = L0.sz) : K.Le κ (κ.set id L) := by
  refine ⟨fun i L0 h0 => ?_, fun _ _ _ h => h, rfl, rfl⟩
  by_cases e : i = id
  · subst e; exact ⟨L, by simp, h L0 h0⟩
  · exact ⟨L0, by rw [K.set_ne _ _ e]; exact h0, Nat.le_refl _, fun _ => rfl, rfl⟩
theorem Rel.put {E : Env} {κ : K} {st : St} {w w' : World} {id : Nat} {L : Loc} {B : Blk} (h : Rel E κ st w)
    (hle : ∀ L0, κ.loc id = some L0 → L0.gen ≤ L.gen ∧ (L.gen = L0.gen → L = L0) ∧ L.sz = L0.sz)
    (hg : w.grownBy w' (some L.b))
    (hb : BR (κ.set id L) w' L B) (hlt : L.b < w'.heap.size)
    (hpl : (∃ L0, (st id).isSome ∧ κ.loc id = some L0 ∧ L0.b = L.b) ∨ w.heap.size ≤ L.b) : Rel E (κ.set id L) (st.set id B) w' := by
  have hK : K.Le κ (κ.set id L) := K.le_set hle
  have hown : κ.n0 ≤ L.b := by
    rcases hpl with ⟨L0, hs, hl, e⟩ | hp
    · obtain ⟨B0, hB0⟩ := Option.isSome_iff_exists.1 hs
      obtain ⟨L1, h1, _, h2, _⟩ := h.dom id B0 hB0
      rw [hl] at h1; cases h1; omega
    · have := h.n0; omega
  have hother : ∀ i Bi, i ≠ id → st i = some Bi → ∃ Li, κ.loc i = some Li ∧ BR κ w Li Bi ∧ κ.n0 ≤ Li.b ∧ Li.b < w.heap.size ∧ Li.b ≠ L.b := by
    intro i Bi hne hi
    obtain ⟨Li, h1, h2, h3, h4⟩ := h.dom i Bi hi
    refine ⟨Li, h1, h2, h3, h4, fun e => ?_⟩
    rcases hpl with ⟨L0, hs, hl, e0⟩ | hp
    · exact hne (h.inj i id Li L0 (by simp [hi]) hs h1 hl (by omega))
    · omega
  refine ⟨?_, ?_, ?_, ?_, ?_, ?_, Nat.le_trans h.n0 hg.size, fun g => VR.mono hK _ _ (h.glob g), h.wf⟩
  · intro i Bi hi
    by_cases e : i = id
    · subst e
      rw [St.set_same] at hi; cases hi
      exact ⟨L, by simp, hb, hown, hlt⟩
    · rw [St.set_ne _ _ e] at hi
      obtain ⟨Li, h1, h2, h3, h4, h5⟩ := hother i Bi e hi
      exact ⟨Li, by rw [K.set_ne _ _ e]; exact h1, h2.keep hK (hg.block _ h4 (by simp only [ne_eq, Option.some.injEq]; exact h5)), h3, Nat.lt_of_lt_of_le h4 hg.size⟩
  · intro i j Li Lj hi hj hLi hLj hbb
    by_cases e : i = id
    · subst e
      rw [K.set_same] at hLi; cases hLi
      by_cases e' : j = i
      · exact e'.symm
      · rw [St.set_ne _ _ e'] at hj
        rw [K.set_ne _ _ e'] at hLj
        obtain ⟨Bj, hBj⟩ := Option.isSome_iff_exists.1 hj
        obtain ⟨Lj', h1, _, _, _, h5⟩ := hother j Bj e' hBj
        rw [hLj] at h1; cases h1
        exact absurd hbb.symm h5
    · rw [St.set_ne _ _ e] at hi
      rw [K.set_ne _ _ e] at hLi
      obtain ⟨Bi, hBi⟩ := Option.isSome_iff_exists.1 hi
      obtain ⟨Li', h1, _, _, _, h5⟩ := hother i Bi e hBi
      rw [hLi] at h1; cases h1
      by_cases e' : j = id
      · subst e'
        rw [K.set_same] at hLj; cases hLj
        exact absurd hbb h5
      · rw [St.set_ne _ _ e'] at hj
        rw [K.set_ne _ _ e'] at hLj
        exact h.inj i j Li Lj hi hj hLi hLj hbb
  · intro b o v hv
    have hv0 : κ.fz b o = some v := hv
    have hc := h.fzw b o v hv0
    have hlt := World.block_lt_of_cell? w _ hc
    have hne : b ≠ L.b := by
      rcases hpl with ⟨L0, hs, hl, e0⟩ | hp
      · intro e
        have := h.sep id L0 o hs hl
        rw [e0, ← e, hv0] at this
        cases this
      · intro e; simp only at hlt; omega
    exact hg.cell hc (by simp only [ne_eq, Option.some.injEq]; exact hne)
  · intro i Li o hi hLi
    show κ.fz Li.b o = none
    by_cases e : i = id
    · subst e
      rw [K.set_same] at hLi; cases hLi
      rcases hpl with ⟨L0, hs, hl, e0⟩ | hp
      · rw [← e0]; exact h.sep i L0 o hs hl
      · cases hf : κ.fz L.b o with
        | none => rfl
        | some v =>
          have := World.block_lt_of_cell? w _ (h.fzw L.b o v hf)
          simp only at this; omega
    · rw [St.set_ne _ _ e] at hi
      rw [K.set_ne _ _ e] at hLi
      exact h.sep i Li o hi hLi
  · obtain ⟨N, hN⟩ := h.bnd
    refine ⟨max N (id + 1), fun i hi => ?_⟩
    rw [K.set_ne _ _ (by omega)]
    exact hN i (by omega)
  · exact h.bel.grown hg h.n0 (fun k e => by cases e; exact hown)
theorem Rel.forget {E : Env} {κ : K} {st st' : St} {w : World} (h : Rel E κ st w) (hs : ∀ id B, st' id = some B → st id = some B) : Rel E κ st' w := by
  have hss : ∀ id, (st' id).isSome → (st id).isSome := fun id hi => by
    obtain ⟨B, hB⟩ := Option.isSome_iff_exists.1 hi
    rw [hs id B hB]; rfl
  exact ⟨fun id B hB => h.dom id B (hs id B hB), fun i j Li Lj hi hj => h.inj i j Li Lj (hss i hi) (hss j hj), h.fzw, fun i L o hi => h.sep i L o (hss i hi), h.bnd, h.bel, h.n0, h.glob, h.wf⟩
theorem Rel.drew {E : Env} {κ : K} {st : St} {w : World} (h : Rel E κ st w) : Rel E κ st w.drew :=
  ⟨fun id B hB => let ⟨L, h1, h2, h3, h4⟩ := h.dom id B hB; ⟨L, h1, h2.keep (K.Le.refl κ) rfl, h3, h4⟩, h.inj, h.fzw, h.sep, h.bnd, h.bel.drew, h.n0, h.glob, h.wf⟩
theorem Rel.fresh {E : Env} {κ : K} {st : St} {w : World} (h : Rel E κ st w) : ∃ id, κ.loc id = none ∧ st id = none := by
  obtain ⟨N, hN⟩ := h.bnd
  refine ⟨N, hN N (Nat.le_refl _), ?_⟩
  cases hs : st N with
  | none => rfl
  | some B =>
    obtain ⟨L, h1, _⟩ := h.dom N B hs
    rw [hN N (Nat.le_refl _)] at h1; cases h1
theorem Rel.alloc {E : Env} {κ : K} {st : St} {w : World} (h : Rel E κ st w) {id : Nat} (hid : κ.loc id = none) {o : Obj} {g cap sz : Nat} {B : Blk}
    (hb : BR (κ.set id ⟨g, w.heap.size, cap, sz⟩) (w.alloc o) ⟨g, w.heap.size, cap, sz⟩ B) : Rel E (κ.set id ⟨g, w.heap.size, cap, sz⟩) (st.set id B) (w.alloc o) ∧ K.Le κ (κ.set id ⟨g, w.heap.size, cap, sz⟩) := by
  have hle : ∀ L0, κ.loc id = some L0 → L0.gen ≤ (⟨g, w.heap.size, cap, sz⟩ : Loc).gen ∧ ((⟨g, w.heap.size, cap, sz⟩ : Loc).gen = L0.gen → (⟨g, w.heap.size, cap, sz⟩ : Loc) = L0) ∧ (⟨g, w.heap.size, cap, sz⟩ : Loc).sz = L0.sz := fun L0 h0 => by rw [hid] at h0; cases h0
  exact ⟨h.put hle (World.grownBy_alloc w o _) hb (by simp) (.inr (Nat.le_refl _)), K.le_set hle⟩
end Go.Abs

/- THE ABSTRACT MEMORY (part 2): what a piece of code does to it; the rules of control. -/
namespace Go.Abs
open Go.RowKit
inductive ADef where
  | collected (id : Nat)
  | call (f : AV) (args : List AV)
structure AA where
  tm : List AV
  ds : List ADef
def AA.get (a : AA) (t : Nat) : AV := a.tm.getD t (.tup [])
def AA.put (a : AA) (dst : Option Tmp) (v : AV) : AA :=
  match dst with
  | none => a
  | some d => { a with tm := a.tm.set d v }
def absS : Value → AV
  | .bool b => .bool b
  | .int k n => .int k n
  | .string s => .str s.data.toList
  | .pointer none => .nilp
  | .slice none n m => if n = 0 ∧ m = 0 then .nils else .junk
  | .map none => .nilm
  | .nilFunc => .nilf
  | .nilIface => .nili
  | .tuple vs => if vs = #[] then .tup [] else .junk
  | _ => .junk
def absV : Value → AV
  | .agg cs => .agg (cs.toList.map absS)
  | v => absS v
def AA.ev (E : Env) (a : AA) : Operand → AV
  | .tmp t => a.get t
  | .const v => absV v
  | .global g => E.G g
  | .func f => .clo (.func f) [] []
theorem absS_ok (κ : K) (v : Value) : VR κ (absS v) v := by
  cases v with
  | slice a n m =>
    cases a with
    | none =>
      simp only [absS]
      split
      · rename_i h; obtain ⟨rfl, rfl⟩ := h; simp [VR]
      · simp [VR]
    | some a => simp [absS, VR]
  | tuple vs =>
    simp only [absS]
    split
    · rename_i h; subst h; simp [VR, VRs]
    · simp [VR]
  | pointer a => cases a <;> simp [absS, VR]
  | map a => cases a <;> simp [absS, VR]
  | _ => simp [absS, VR]
theorem absSs_ok (κ : K) : ∀ vs : List Value, VRs κ (vs.map absS) vs
  | [] => by simp [VRs]
  | v :: vs => by
    simp only [List.map_cons, VRs]
    exact ⟨v, vs, rfl, absS_ok κ v, absSs_ok κ vs⟩
theorem absV_ok (κ : K) (v : Value) : VR κ (absV v) v := by
  unfold absV
  split
  · rename_i cs
    simp only [VR]
    exact ⟨cs, rfl, absSs_ok κ _⟩
  · exact absS_ok κ _
def DR (κ : K) : ADef → Deferred → Prop
  | .collected id, d => ∃ L b, κ.loc id = some L ∧ d = { target := .collected b, args := #[] } ∧ (L.gen = 0 → b = L.b)
  | .call f args, d => ∃ fn fi ca first caps, f = .clo fn first caps ∧ d.target = .fn fn ca ∧ (∃ xs, d.args = fi ++ xs ∧ VRs κ args xs.toList) ∧ VRs κ first fi.toList ∧ VRs κ caps ca.toList
def DRs (κ : K) : List ADef → List Deferred → Prop
  | [], ds => ds = []
  | a :: as, ds => ∃ d ds', ds = d :: ds' ∧ DR κ a d ∧ DRs κ as ds'
theorem DR.mono {κ κ' : K} (h : K.Le κ κ') {a : ADef} {d : Deferred} (hd : DR κ a d) : DR κ' a d := by
  cases a with
  | collected id =>
    obtain ⟨L, b, hL, rfl, hb⟩ := hd
    obtain ⟨L', hL', g1, e1, s1⟩ := h.loc id L hL
    exact ⟨L', b, hL', rfl, fun e => by have := e1 (by omega); subst this; exact hb e⟩
  | call f args =>
    obtain ⟨fn, fi, ca, first, caps, h1, h2, ⟨xs, h3, h4⟩, h5, h6⟩ := hd
    exact ⟨fn, fi, ca, first, caps, h1, h2, ⟨xs, h3, VRs.mono h _ _ h4⟩, VRs.mono h _ _ h5, VRs.mono h _ _ h6⟩
theorem DRs.mono {κ κ' : K} (h : K.Le κ κ') : ∀ {as : List ADef} {ds : List Deferred}, DRs κ as ds → DRs κ' as ds
  | [], _, hd => hd
  | a :: as, _, hd => by
    obtain ⟨d, ds', rfl, h1, h2⟩ := hd
    exact ⟨d, ds', rfl, h1.mono h, DRs.mono h h2⟩
structure AR (κ : K) (a : AA) (act : Act) : Prop where
  t : TR κ a.tm act.tmps
  d : DRs κ a.ds act.defers
theorem AR.mono {κ κ' : K} (h : K.Le κ κ') {a : AA} {act : Act} (r : AR κ a act) : AR κ' a act := ⟨VRs.mono h _ _ r.t, r.d.mono h⟩
theorem VRs_getD {κ : K} : ∀ {as : List AV} {vs : List Value} (_ : VRs κ as vs) (i : Nat), VR κ (as.getD i (.tup [])) (vs.getD i undef)
  | [], _, h, i => by
    simp only [VRs] at h; subst h
    simp only [List.getD_nil, VR, undef]
    exact ⟨#[], rfl, by simp [VRs]⟩
  | a :: as, _, h, i => by
    simp only [VRs] at h
    obtain ⟨v, vs, rfl, h1, h2⟩ := h
    cases i with
    | zero => exact h1
    | succ i => exact VRs_getD h2 i
theorem VRs_set {κ : K} : ∀ {as : List AV} {vs : List Value} (_ : VRs κ as vs) (i : Nat) {a : AV} {v : Value} (_ : VR κ a v), VRs κ (as.set i a) (vs.set i v)
  | [], _, h, i, _, _, _ => by simp only [VRs] at h; subst h; simp [VRs]
  | b :: bs, _, h, i, a, v, hv => by
    simp only [VRs] at h
    obtain ⟨u, us, rfl, h1, h2⟩ := h
    cases i with
    | zero => simp only [List.set_cons_zero, VRs]; exact ⟨v, us, rfl, hv, h2⟩
    | succ i => simp only [List.set_cons_succ, VRs]; exact ⟨u, _, rfl, h1, VRs_set h2 i hv⟩
theorem AR.get {κ : K} {a : AA} {act : Act} (r : AR κ a act) (t : Nat) : VR κ (a.get t) (act.tmps.getD t undef) := by
  have := VRs_getD r.t t
  simpa [AA.get, Array.getD_eq_getD_getElem?, List.getD] using this
theorem AR.ev {E : Env} {κ : K} {st : St} {w : World} {a : AA} {act : Act} (r : AR κ a act) (h : Rel E κ st w) (x : Operand) : VR κ (a.ev E x) (act.eval x) := by
  cases x with
  | tmp t => exact r.get t
  | const v => exact absV_ok κ v
  | global g => exact h.glob g
  | func f => simp only [AA.ev, Act.eval, VR]; exact ⟨#[], #[], rfl, by simp [VRs], by simp [VRs]⟩
theorem AR.put {κ : K} {a : AA} {act : Act} (r : AR κ a act) (dst : Option Tmp) {v : AV} {cv : Value} (hv : VR κ v cv) : AR κ (a.put dst v) (act.put dst cv) := by
  cases dst with
  | none => exact r
  | some d => exact ⟨by have := VRs_set r.t d hv; simpa [TR, AA.put, Act.put, Array.toList_setIfInBounds] using this, r.d⟩
inductive AExit where
  | normal
  | exit (id : Nat)
  | goto (l : Nat)
  | ret
  | panic (v : AV)
inductive AEnd where
  | ret (v : AV)
  | panic (v : AV)
def XR (κ : K) : AExit → Exit → Prop
  | .normal, e => e = .normal
  | .exit id, e => e = .exit id
  | .goto l, e => e = .goto l
  | .ret, e => e = .ret
  | .panic v, e => ∃ cv, e = .panic [{ v := cv, recovered := false }] ∧ VR κ v cv
def EndR (κ : K) : AEnd → Ending → Prop
  | .ret v, e => ∃ cv, e = .returned cv ∧ VR κ v cv
  | .panic v, e => ∃ cv, e = .panicked [{ v := cv, recovered := false }] ∧ VR κ v cv
abbrev APost := AExit → AA → St → Prop
abbrev ANext := AA → St → Prop
abbrev Fr (rd : Option Nat) : Fence := { Fence.wide with round := rd }
def RdR (κ : K) : Option Nat → Option Nat → Prop
  | none, rd => rd = none
  | some id, rd => ∃ L b, κ.loc id = some L ∧ rd = some b ∧ (L.gen = 0 → b = L.b)
theorem RdR.mono {κ κ' : K} (h : K.Le κ κ') {r rd : Option Nat} (hr : RdR κ r rd) : RdR κ' r rd := by
  cases r with
  | none => exact hr
  | some id =>
    obtain ⟨L, b, hL, rfl, hb⟩ := hr
    obtain ⟨L', hL', g1, e1, s1⟩ := h.loc id L hL
    exact ⟨L', b, hL', rfl, fun e => by have := e1 (by omega); subst this; exact hb e⟩
def upK (E : Env) (κ : K) (Kn : ANext) : Act → World → Prop := fun act w => ∃ κ' a st, K.Le κ κ' ∧ Rel E κ' st w ∧ AR κ' a act ∧ Kn a st
def upX (E : Env) (κ : K) (Q : APost) : Exit → Act → World → Prop := fun e act w => ∃ κ' x a st, K.Le κ κ' ∧ Rel E κ' st w ∧ AR κ' a act ∧ XR κ' x e ∧ Q x a st
def upE (E : Env) (κ : K) (R : AEnd → St → Prop) : Ending → World → Prop := fun e w => ∃ κ' x st, K.Le κ κ' ∧ Rel E κ' st w ∧ EndR κ' x e ∧ R x st
theorem upX_le {E : Env} {κ κ' : K} (h : K.Le κ κ') {Q Q' : APost} (hq : ∀ x a st, Q x a st → Q' x a st) {e : Exit} {act : Act} {w : World} (hu : upX E κ' Q e act w) : upX E κ Q' e act w := by
  obtain ⟨κ'', x, a, st, h1, h2, h3, h4, h5⟩ := hu
  exact ⟨κ'', x, a, st, h.trans h1, h2, h3, h4, hq _ _ _ h5⟩
theorem upE_le {E : Env} {κ κ' : K} (h : K.Le κ κ') {Q Q' : AEnd → St → Prop} (hq : ∀ x st, Q x st → Q' x st) {e : Ending} {w : World} (hu : upE E κ' Q e w) : upE E κ Q' e w := by
  obtain ⟨κ'', x, st, h1, h2, h4, h5⟩ := hu
  exact ⟨κ'', x, st, h.trans h1, h2, h4, hq _ _ h5⟩
def AW (E : Env) (r : Option Nat) (c : Code) (Q : APost) (a : AA) (st : St) : Prop :=
  ∀ κ w act rd, Rel E κ st w → AR κ a act → RdR κ r rd → c.wpIn (Fr rd) 0 E.P (upX E κ Q) act w
def ACalls (E : Env) (f : FuncId) (args : List AV) (st : St) (R : AEnd → St → Prop) : Prop :=
  ∀ κ w cargs, Rel E κ st w → VRs κ args cargs.toList → CallsIn Fence.wide 0 E.P f cargs w (upE E κ R)
theorem AW.mono {E : Env} {r : Option Nat} {c : Code} {Q Q' : APost} {a : AA} {st : St} (h : AW E r c Q a st) (hq : ∀ x a st, Q x a st → Q' x a st) : AW E r c Q' a st :=
  fun κ w act rd h1 h2 h3 => wpIn_mono (h κ w act rd h1 h2 h3) fun _ _ _ hu => upX_le (K.Le.refl κ) hq hu
theorem ACalls.mono {E : Env} {f : FuncId} {args : List AV} {st : St} {R R' : AEnd → St → Prop} (h : ACalls E f args st R) (hq : ∀ x st, R x st → R' x st) : ACalls E f args st R' :=
  fun κ w cargs h1 h2 => CallsIn.mono (h κ w cargs h1 h2) fun _ _ hu => upE_le (K.Le.refl κ) hq hu
def AThen (Kn : ANext) (Q : APost) : APost
  | .normal, a, st => Kn a st
  | x, a, st => Q x a st
def AInBlock (id : Nat) (Q : APost) : APost
  | .exit id', a, st => if id' = id then Q .normal a st else Q (.exit id') a st
  | x, a, st => Q x a st
section rules
variable {E : Env} {r : Option Nat} {Q : APost} {a : AA} {st : St}
theorem AW.skip (h : Q .normal a st) : AW E r .skip Q a st := fun κ w act rd h1 h2 h3 => wpIn_skip ⟨κ, .normal, a, st, K.Le.refl κ, h1, h2, rfl, h⟩
theorem AW.label {l : Nat} (h : Q .normal a st) : AW E r (.label l) Q a st := fun κ w act rd h1 h2 h3 => wpIn_label ⟨κ, .normal, a, st, K.Le.refl κ, h1, h2, rfl, h⟩
theorem AW.exit {id : Nat} (h : Q (.exit id) a st) : AW E r (.exit id) Q a st := fun κ w act rd h1 h2 h3 => wpIn_exit ⟨κ, .exit id, a, st, K.Le.refl κ, h1, h2, rfl, h⟩
theorem AW.goto {l : Nat} (h : Q (.goto l) a st) : AW E r (.goto l) Q a st := fun κ w act rd h1 h2 h3 => wpIn_goto ⟨κ, .goto l, a, st, K.Le.refl κ, h1, h2, rfl, h⟩
theorem AW.ret (h : Q .ret a st) : AW E r .ret Q a st := fun κ w act rd h1 h2 h3 => wpIn_ret ⟨κ, .ret, a, st, K.Le.refl κ, h1, h2, rfl, h⟩
theorem AW.seq {x y : Code} (h : AW E r x (AThen (AW E r y Q) Q) a st) : AW E r (.seq x y) Q a st := by
  intro κ w act rd h1 h2 h3
  refine wpIn_seq (wpIn_mono (h κ w act rd h1 h2 h3) ?_)
  rintro e act' w' ⟨κ', x', a', st', hle, h1', h2', hx, hq⟩
  cases x' with
  | normal =>
    simp only [XR] at hx; subst hx
    exact wpIn_mono (hq κ' w' act' rd h1' h2' (h3.mono hle)) fun _ _ _ hu => upX_le hle (fun _ _ _ h => h) hu
  | exit id => simp only [XR] at hx; subst hx; exact ⟨κ', .exit id, a', st', hle, h1', h2', rfl, hq⟩
  | goto l => simp only [XR] at hx; subst hx; exact ⟨κ', .goto l, a', st', hle, h1', h2', rfl, hq⟩
  | ret => simp only [XR] at hx; subst hx; exact ⟨κ', .ret, a', st', hle, h1', h2', rfl, hq⟩
  | panic v => simp only [XR] at hx; obtain ⟨cv, rfl, hv⟩ := hx; exact ⟨κ', .panic v, a', st', hle, h1', h2', ⟨cv, rfl, hv⟩, hq⟩
theorem AW.cond {c : Operand} {x y : Code} {b : Bool} (hc : a.ev E c = .bool b) (hx : b = true → AW E r x Q a st) (hy : b = false → AW E r y Q a st) : AW E r (.cond c x y) Q a st := by
  intro κ w act rd h1 h2 h3
  have hv := h2.ev h1 c
  rw [hc] at hv
  simp only [VR] at hv
  cases b with
  | true => exact wpIn_cond hv (hx rfl κ w act rd h1 h2 h3)
  | false => exact wpIn_cond hv (hy rfl κ w act rd h1 h2 h3)
theorem AW.block {id : Nat} {c : Code} (h : AW E r c (AInBlock id Q) a st) : AW E r (.block id c) Q a st := by
  intro κ w act rd h1 h2 h3
  refine wpIn_block (wpIn_mono (h κ w act rd h1 h2 h3) ?_)
  rintro e act' w' ⟨κ', x', a', st', hle, h1', h2', hx, hq⟩
  cases x' with
  | normal => simp only [XR] at hx; subst hx; exact ⟨κ', .normal, a', st', hle, h1', h2', rfl, hq⟩
  | exit id' =>
    simp only [XR] at hx; subst hx
    simp only [AInBlock] at hq
    simp only [Exit.inBlock]
    split
    · rename_i e; rw [if_pos e] at hq; exact ⟨κ', .normal, a', st', hle, h1', h2', rfl, hq⟩
    · rename_i e; rw [if_neg e] at hq; exact ⟨κ', .exit id', a', st', hle, h1', h2', rfl, hq⟩
  | goto l => simp only [XR] at hx; subst hx; exact ⟨κ', .goto l, a', st', hle, h1', h2', rfl, hq⟩
  | ret => simp only [XR] at hx; subst hx; exact ⟨κ', .ret, a', st', hle, h1', h2', rfl, hq⟩
  | panic v => simp only [XR] at hx; obtain ⟨cv, rfl, hv⟩ := hx; exact ⟨κ', .panic v, a', st', hle, h1', h2', ⟨cv, rfl, hv⟩, hq⟩
theorem AW.loop {c : Code} (I : ANext) (μ : AA → St → Nat) (h0 : I a st)
    (round : ∀ a st, I a st → AW E r c (AThen (fun a' st' => I a' st' ∧ μ a' st' < μ a st) Q) a st) : AW E r (.loop c) Q a st := by
  intro κ w act rd h1 h2 h3 b k cs hro hb hr
  have key : ∀ j a st κ w act, μ a st = j → I a st → Rel E κ st w → AR κ a act → RdR κ r rd →
      ∃ e a' w', upX E κ Q e a' w' ∧ ArrivesIn (Machine.fenced E.P (Fr rd)) E.P (lone (b.atR act (.code c :: .inLoop c :: k)) cs w) b k cs e a' w' := by
    intro j
    induction j using Nat.strongRecOn with
    | _ j ih =>
      intro a st κ w act hn hI h1 h2 h3
      obtain ⟨e, a₁, w₁, hq, harr⟩ := round a st hI κ w act rd h1 h2 h3 b (.inLoop c :: k) cs hro hb hr
      obtain ⟨κ', x', a', st', hle, h1', h2', hx, hq⟩ := hq
      cases x' with
      | normal =>
        simp only [XR] at hx; subst hx
        obtain ⟨hI₁, hlt⟩ := hq
        obtain ⟨e₂, a₂, w₂, hq₂, harr₂⟩ := ih (μ a' st') (hn ▸ hlt) a' st' κ' w₁ a₁ rfl hI₁ h1' h2' (h3.mono hle)
        exact ⟨e₂, a₂, w₂, upX_le hle (fun _ _ _ h => h) hq₂, .of_steps (StepsIn.trans harr (.one (fenced_calm hb hr rfl) stepR_inLoop)) harr₂⟩
      | exit id => simp only [XR] at hx; subst hx; exact ⟨_, a₁, w₁, ⟨κ', .exit id, a', st', hle, h1', h2', rfl, hq⟩, .pass (x := .inLoop c) rfl (fun _ _ => .inl (by simp)) harr⟩
      | goto l => simp only [XR] at hx; subst hx; exact ⟨_, a₁, w₁, ⟨κ', .goto l, a', st', hle, h1', h2', rfl, hq⟩, .pass (x := .inLoop c) rfl (fun _ _ => .inl (by simp)) harr⟩
      | ret => simp only [XR] at hx; subst hx; exact ⟨_, a₁, w₁, ⟨κ', .ret, a', st', hle, h1', h2', rfl, hq⟩, .pass (x := .inLoop c) rfl (fun _ _ => .inl (by simp)) harr⟩
      | panic v => simp only [XR] at hx; obtain ⟨cv, rfl, hv⟩ := hx; exact ⟨_, a₁, w₁, ⟨κ', .panic v, a', st', hle, h1', h2', ⟨cv, rfl, hv⟩, hq⟩, .pass (x := .inLoop c) rfl (fun _ _ => .inl (by simp)) harr⟩
  obtain ⟨e, a', w', hq, harr⟩ := key _ a st κ w act rfl h0 h1 h2 h3
  exact ⟨e, a', w', hq, .of_steps (.one (fenced_calm hb hr rfl) stepR_loop) harr⟩
end rules
end Go.Abs

/- THE ABSTRACT MEMORY (part 3): regions; operations that only reckon. -/
namespace Go.Abs
open Go.RowKit
def AOp (E : Env) (r : Option Nat) (o : Oper) (Kn : ANext) (Q : APost) (a : AA) (st : St) : Prop :=
  ∀ κ w act rd, Rel E κ st w → AR κ a act → RdR κ r rd → o.wpIn (Fr rd) 0 E.P act w (upK E κ Kn) (upX E κ Q)
def AOps (E : Env) (r : Option Nat) (ops : Array Oper) (Q : APost) (l : List Nat) (a : AA) (st : St) : Prop :=
  ∀ κ w act rd, Rel E κ st w → AR κ a act → RdR κ r rd → wpOpsIn (Fr rd) 0 E.P ops (upX E κ Q) l act w
def agd (v : AV) (want : Bool) : Option Bool :=
  match v with
  | .bool b => some (b == want)
  | .opt c (.bool b) => some (c && (b == want))
  | .tup _ => some false
  | _ => none
def isB (cv : Value) (want : Bool) : Bool := match cv with | .bool b => b == want | _ => false
theorem agd_ok {κ : K} {v : AV} {want g : Bool} {cv : Value} (h : agd v want = some g) (hv : VR κ v cv) : isB cv want = g := by
  unfold agd at h
  split at h
  · cases h; simp only [VR] at hv; subst hv; rfl
  · rename_i c b
    cases h
    simp only [VR] at hv
    cases c with
    | true => have := hv.1 rfl; subst this; simp [isB]
    | false => have := hv.2 rfl; subst this; rfl
  · cases h; simp only [VR] at hv; obtain ⟨vs, rfl, _⟩ := hv; rfl
  · cases h
theorem yielded_some {ops : Array Oper} {tmps : Array Value} {j d : Nat} (h : (ops[j]?).bind (·.dst) = some d) (want : Bool) :
    (yielded ops tmps j == some want) = isB (tmps.getD d undef) want := by
  unfold yielded
  rw [h]
  simp only [Option.bind_some]
  cases ht : tmps[d]? with
  | none => simp [Array.getD_eq_getD_getElem?, ht, undef, isB]
  | some v => cases v <;> simp [Array.getD_eq_getD_getElem?, ht, isB]
theorem uponIn_mono {F : Fence} {n : Nat} {P : Program} {o : Oper} {a : Act} {K1 K2 : Act → World → Prop} {Q1 Q2 : Exit → Act → World → Prop} (hk : ∀ a w, K1 a w → K2 a w) (hq : ∀ e a w, Q1 e a w → Q2 e a w)
    {res : Result Next} (h : o.uponIn F n P a K1 Q1 res) : o.uponIn F n P a K2 Q2 res := by
  cases res with
  | ok nx w' =>
    cases nx <;> simp only [Oper.uponIn] at h ⊢ <;> first
      | exact hk _ _ h
      | (refine ⟨h.1, CallsIn.mono h.2 fun e w' he => ?_⟩
         cases e with
         | returned v => exact hk _ _ he
         | panicked ch => exact hq _ _ _ he
         | outgrown => obtain ⟨x, y, z⟩ := he; exact ⟨x, y, hq _ _ _ z⟩)
      | (refine ⟨h.1, RoundIn.mono h.2 fun e w' he => ?_⟩
         cases e with
         | returned v => exact hk _ _ he
         | panicked ch => exact hq _ _ _ he
         | outgrown => obtain ⟨x, y, z⟩ := he; exact ⟨x, y, hq _ _ _ z⟩)
      | exact ⟨h.1, RowsIn.mono h.2 fun v w' he => hk _ _ he⟩
  | halt x w' => cases x <;> simp only [Oper.uponIn] at h ⊢ <;> exact hq _ _ _ h
theorem wpOpsIn_mono {Q Q' : Exit → Act → World → Prop} {F : Fence} {n : Nat} {P : Program} {ops : Array Oper} (hq : ∀ e a w, Q e a w → Q' e a w) : ∀ (l : List Nat) (a : Act) (w : World), wpOpsIn F n P ops Q l a w → wpOpsIn F n P ops Q' l a w
    | [], a, w, h => hq _ _ _ h
    | i :: rest, a, w, h => by
      simp only [wpOpsIn] at h ⊢
      cases ho : ops[i]? with
      | none => simp only [ho] at h ⊢; exact wpOpsIn_mono hq rest a w h
      | some o =>
        simp only [ho] at h ⊢
        split
        · rename_i hw
          rw [if_pos hw] at h
          exact ⟨h.1, uponIn_mono (wpOpsIn_mono hq rest) hq h.2⟩
        · rename_i hw
          rw [if_neg hw] at h
          exact ⟨h.1, wpOpsIn_mono hq rest _ w h.2⟩
section
variable {E : Env} {r : Option Nat} {Q : APost} {ops : Array Oper} {a : AA} {st : St}
theorem AOps.nil (h : Q .normal a st) : AOps E r ops Q [] a st := fun κ w act rd h1 h2 h3 => ⟨κ, .normal, a, st, K.Le.refl κ, h1, h2, rfl, h⟩
theorem AOps.none {i : Nat} {rest : List Nat} (ho : ops[i]? = none) (h : AOps E r ops Q rest a st) : AOps E r ops Q (i :: rest) a st := by
  intro κ w act rd h1 h2 h3
  simp only [wpOpsIn, ho]
  exact h κ w act rd h1 h2 h3
theorem wpOpsIn_up {κ κ' : K} (hle : K.Le κ κ') {rd : Option Nat} (hr : RdR κ r rd) {l : List Nat} {a' : AA} {st' : St} {act' : Act} {w' : World} (h : AOps E r ops Q l a' st')
    (h1 : Rel E κ' st' w') (h2 : AR κ' a' act') : wpOpsIn (Fr rd) 0 E.P ops (upX E κ Q) l act' w' := by
  have := h κ' w' act' rd h1 h2 (hr.mono hle)
  exact wpOpsIn_mono (fun _ _ _ hu => upX_le hle (fun _ _ _ h => h) hu) l _ _ this
theorem AOps.cons {i : Nat} {rest : List Nat} {o : Oper} (ho : ops[i]? = some o) (hg : o.guard = Option.none) (h : AOp E r o (AOps E r ops Q rest) Q a st) : AOps E r ops Q (i :: rest) a st := by
  intro κ w act rd h1 h2 h3
  have hw : Region.wanted o (yielded ops act.tmps) = true := by simp [Region.wanted, hg]
  simp only [wpOpsIn, ho, hw, if_true]
  refine ⟨fun _ _ => trivial, uponIn_mono ?_ (fun _ _ _ h => h) (h κ w act rd h1 h2 h3).2⟩
  rintro act' w' ⟨κ', a', st', hle, h1', h2', hn⟩
  exact wpOpsIn_up hle h3 hn h1' h2'
theorem AOps.guard {i : Nat} {rest : List Nat} {o : Oper} {j d : Nat} {want g : Bool} (ho : ops[i]? = some o) (hg : o.guard = some (j, want)) (hd : (ops[j]?).bind (·.dst) = some d) (hy : agd (a.get d) want = some g)
    (h : g = true → AOp E r o (AOps E r ops Q rest) Q a st) (h' : g = false → AOps E r ops Q rest (a.put o.dst (.tup [])) st) : AOps E r ops Q (i :: rest) a st := by
  intro κ w act rd h1 h2 h3
  have hv := h2.ev h1 (.tmp d)
  have hw : Region.wanted o (yielded ops act.tmps) = g := by
    simp only [Region.wanted, hg, yielded_some hd]
    exact agd_ok hy hv
  simp only [wpOpsIn, ho, hw]
  cases g with
  | true =>
    simp only [if_true]
    refine ⟨fun _ _ => trivial, uponIn_mono ?_ (fun _ _ _ h => h) (h rfl κ w act rd h1 h2 h3).2⟩
    rintro act' w' ⟨κ', a', st', hle, h1', h2', hn⟩
    exact wpOpsIn_up hle h3 hn h1' h2'
  | false =>
    simp only [Bool.false_eq_true, if_false]
    exact ⟨fun _ _ => trivial, wpOpsIn_up (K.Le.refl κ) h3 (h' rfl) h1 (h2.put _ (by simp only [VR, undef]; exact ⟨#[], rfl, by simp [VRs]⟩))⟩
theorem AW.region {id : Nat} (h : AOps E r ops Q (List.range ops.size) a st) : AW E r (.region id ops false) Q a st :=
  fun κ w act rd h1 h2 h3 => wpIn_region (h κ w act rd h1 h2 h3)
theorem AW.region_draw {id : Nat} (h : ∀ t, AOps E r ops Q (Region.schedule (E.P.follows .mixedOrders) ops t) a st) : AW E r (.region id ops true) Q a st :=
  fun κ w act rd h1 h2 h3 => wpIn_region_draw fun t => h t κ w.drew act rd h1.drew h2 h3
def PureV (E : Env) (o : Oper) (a : AA) (v : AV) : Prop :=
  ∀ κ st w act, Rel E κ st w → AR κ a act → (∀ c, o.op ≠ .defer c) ∧ ∃ cv, (execOp act.eval o).run E.P w = .ok (.value cv) w ∧ VR κ v cv
theorem semAt_of {o : Oper} (h : ∀ c, o.op ≠ .defer c) (rd : Option Nat) (ρ : Operand → Value) : o.semAt rd ρ = execOp ρ o := by
  cases rd with
  | none => rfl
  | some l => exact Oper.semAt_some l ρ o h
theorem AOp.pure {o : Oper} {Kn : ANext} {v : AV} (h : PureV E o a v) (hk : Kn (a.put o.dst v) st) : AOp E r o Kn Q a st := by
  intro κ w act rd h1 h2 h3
  obtain ⟨hd, cv, hr, hv⟩ := h κ st w act h1 h2
  refine ⟨fun _ _ => trivial, ?_⟩
  rw [semAt_of hd, hr]
  exact ⟨κ, _, st, K.Le.refl κ, h1, h2.put o.dst hv, hk⟩
theorem AOps.guard_pure {i : Nat} {rest : List Nat} {o : Oper} {j d : Nat} {want g : Bool} {v : AV} (ho : ops[i]? = some o) (hg : o.guard = some (j, want)) (hd : (ops[j]?).bind (·.dst) = some d) (hy : agd (a.get d) want = some g)
    (h : g = true → PureV E o a v) (hk : AOps E r ops Q rest (a.put o.dst (.opt g v)) st) : AOps E r ops Q (i :: rest) a st := by
  intro κ w act rd h1 h2 h3
  have hv := h2.ev h1 (.tmp d)
  have hw : Region.wanted o (yielded ops act.tmps) = g := by
    simp only [Region.wanted, hg, yielded_some hd]
    exact agd_ok hy hv
  simp only [wpOpsIn, ho, hw]
  cases g with
  | true =>
    obtain ⟨hd, cv, hr, hcv⟩ := h rfl κ st w act h1 h2
    simp only [if_true]
    refine ⟨fun _ _ => trivial, ?_⟩
    rw [semAt_of hd, hr]
    exact wpOpsIn_up (K.Le.refl κ) h3 hk h1 (h2.put _ (by simp only [VR]; exact ⟨fun _ => hcv, fun e => by cases e⟩))
  | false =>
    simp only [Bool.false_eq_true, if_false]
    exact ⟨fun _ _ => trivial, wpOpsIn_up (K.Le.refl κ) h3 hk h1 (h2.put _ (by simp [VR, undef]))⟩
end
end Go.Abs

/- THE ABSTRACT MEMORY (part 4): what each operation that only reckons yields. -/
namespace Go.Abs
open Go.RowKit
abbrev PV := Option (Prop × AV)
def ibits (op : BinOp) (k : IntKind) (a b : Int) : Int :=
  match op with
  | .and => k.wrap (BitVec.ofInt k.bits a &&& BitVec.ofInt k.bits b).toNat
  | .or => k.wrap (BitVec.ofInt k.bits a ||| BitVec.ofInt k.bits b).toNat
  | .xor => k.wrap (BitVec.ofInt k.bits a ^^^ BitVec.ofInt k.bits b).toNat
  | _ => k.wrap (BitVec.ofInt k.bits a &&& ~~~ BitVec.ofInt k.bits b).toNat
def aInt (op : BinOp) (k : IntKind) (a b : Int) : PV :=
  match op with
  | .add => some (True, .int k (k.wrap (a + b)))
  | .sub => some (True, .int k (k.wrap (a - b)))
  | .mul => some (True, .int k (k.wrap (a * b)))
  | .quo => some (b ≠ 0, .int k (k.wrap (a.tdiv b)))
  | .rem => some (b ≠ 0, .int k (a.tmod b))
  | .and => some (True, .int k (ibits .and k a b))
  | .or => some (True, .int k (ibits .or k a b))
  | .xor => some (True, .int k (ibits .xor k a b))
  | .andNot => some (True, .int k (ibits .andNot k a b))
  | .eql => some (True, .bool (a == b))
  | .neq => some (True, .bool (a != b))
  | .lss => some (True, .bool (decide (a < b)))
  | .leq => some (True, .bool (decide (a ≤ b)))
  | .gtr => some (True, .bool (decide (a > b)))
  | .geq => some (True, .bool (decide (a ≥ b)))
  | .shl => some (0 ≤ b, .int k (k.wrap (a * 2 ^ (min b.toNat k.bits))))
  | .shr => some (0 ≤ b, .int k (a.fdiv (2 ^ (min b.toNat k.bits))))
def aStr (op : BinOp) (a b : List UInt8) : PV :=
  match op with
  | .add => some ((a.length + b.length : Nat) ≤ (9223372036854775807 : Nat), .str (a ++ b))
  | .eql => some (True, .bool (a == b))
  | .neq => some (True, .bool (!(a == b)))
  | .lss => some (True, .bool (Op.bytesLess a b))
  | .leq => some (True, .bool (Op.bytesLess a b || a == b))
  | .gtr => some (True, .bool (!(Op.bytesLess a b || a == b)))
  | .geq => some (True, .bool (!Op.bytesLess a b))
  | _ => none
def isShift : BinOp → Bool
  | .shl | .shr => true
  | _ => false
def aBin (op : BinOp) (x y : AV) : PV :=
  match x, y with
  | .int k a, .int k' b => if isShift op = true ∨ k = k' then aInt op k a b else none
  | .str a, .str b => aStr op a b
  | _, _ => none
def aEq (P : Program) (t : TypeId) (x y : AV) : Option Bool :=
  match P.underlying t, x, y with
  | some .bool, .bool a, .bool b => some (a == b)
  | some (.pointer _), .nilp, .nilp => some true
  | some (.pointer _), .ptr .., .nilp | some (.pointer _), .nilp, .ptr .. | some (.pointer _), .fptr _, .nilp | some (.pointer _), .nilp, .fptr _ => some false
  | some (.slice _), .nils, .nils => some true
  | some (.slice _), .nils, .arr .. | some (.slice _), .arr .., .nils => some false
  | some (.map _ _), .nilm, .nilm => some true
  | some (.map _ _), .nilm, .ref _ | some (.map _ _), .ref _, .nilm => some false
  | some (.interface _), .nili, .iface _ _ | some (.interface _), .iface _ _, .nili => some false
  | _, _, _ => none
def aBinOp (P : Program) (op : BinOp) (t : TypeId) (x y : AV) : PV :=
  match aBin op x y with
  | some r => some r
  | none =>
    match op with
    | .eql => (aEq P t x y).map fun b => (True, .bool b)
    | .neq => (aEq P t x y).map fun b => (True, .bool (!b))
    | _ => none
def aUn (op : UnOp) (x : AV) : PV :=
  match op, x with
  | .neg, .int k n => some (True, .int k (k.wrap (0 - n)))
  | .xor, .int k n => some (True, .int k (ibits .xor k (if k.signed then -1 else k.max) n))
  | .not, .bool b => some (True, .bool (!b))
  | _, _ => none
def aConv (P : Program) (src dst : TypeId) (x : AV) : PV :=
  match P.underlying src, P.underlying dst, x with
  | some _, some (.int k), .int _ n => some (True, .int k (k.wrap n))
  | some _, some .string, .str s => some (True, .str s)
  | some _, some .string, .int _ n => some (True, .str (Utf8.encode n).data.toList)
  | _, _, _ => none
def aggT (P : Program) (t : TypeId) : Option Bool :=
  match P.underlying t with
  | some (.struct _) | some (.array ..) => some true
  | some _ => some false
  | none => none
def tsz (P : Program) (t : TypeId) : Option Nat := (P.info? t).map (·.size)
def aPart (P : Program) (t : TypeId) (cs : List AV) (off : Nat) : PV :=
  match aggT P t, tsz P t with
  | some true, some n => some (True, .agg ((cs.drop off).take n))
  | some false, _ => some (off < cs.length, cs.getD off .junk)
  | _, _ => none
def aIndex (P : Program) (t : TypeId) (x i : AV) : PV :=
  match P.underlying t, x, i with
  | some .string, .str s, .int _ i => some (0 ≤ i ∧ i < s.length, .int .u8 ((s.getD i.toNat 0).toNat : Int))
  | some (.array n e), .agg cs, .int _ i =>
    match tsz P e with
    | some z => (aPart P e cs (i.toNat * z)).map fun p => ((0 ≤ i ∧ i < n) ∧ p.1, p.2)
    | none => none
  | _, _, _ => none
def aBound (x : Option AV) (d : Int) : Option Int :=
  match x with
  | none => some d
  | some (.int _ i) => some i
  | _ => none
def aSlice (P : Program) (t : TypeId) (x : AV) (lo hi : Option AV) : PV :=
  match P.underlying t, x with
  | some .string, .str s =>
    match aBound lo 0, aBound hi s.length with
    | some l, some h => some (0 ≤ l ∧ l ≤ h ∧ h ≤ s.length, .str ((s.drop l.toNat).take (h.toNat - l.toNat)))
    | _, _ => none
  | some (.slice e), .tree sz es =>
    match aBound lo 0, aBound hi es.length with
    | some l, some h => some ((0 ≤ l ∧ l ≤ h ∧ h ≤ es.length) ∧ tsz P e = some sz, .tree sz ((es.drop l.toNat).take (h.toNat - l.toNat)))
    | _, _ => none
  | some (.slice e), .arr id g sz off len =>
    match aBound lo 0, aBound hi len with
    | some l, some h => some ((0 ≤ l ∧ l ≤ h ∧ h ≤ len) ∧ tsz P e = some sz, .arr id g sz (off + l.toNat) (h.toNat - l.toNat))
    | _, _ => none
  | some (.slice e), .nils =>
    match aBound lo 0, aBound hi 0 with
    | some l, some h => some (l = 0 ∧ h = 0 ∧ (tsz P e).isSome = true, .nils)
    | _, _ => none
  | _, _ => none
def aField (P : Program) (t : TypeId) (x : AV) (f : Nat) : PV :=
  match P.underlying t, x with
  | some (.struct fs), .agg cs =>
    match fs[f]? with
    | some f => aPart P f.type cs f.offset
    | none => none
  | _, _ => none
def aExtract (x : AV) (i : Nat) : PV :=
  match x with
  | .tup vs => some (i < vs.length, vs.getD i .junk)
  | _ => none
def aLen (P : Program) (t : TypeId) (x : AV) : PV :=
  match P.underlying t, x with
  | some .string, .str s => some (True, .int .i64 s.length)
  | some (.slice _), .tree _ es => some (True, .int .i64 es.length)
  | some (.slice _), .arr _ _ _ _ n => some (True, .int .i64 n)
  | some (.slice _), .nils => some (True, .int .i64 0)
  | some (.array n _), _ => some (True, .int .i64 n)
  | some (.map _ _), .nilm => some (True, .int .i64 0)
  | _, _ => none
def aNil (x : AV) : PV :=
  match x with
  | .ptr .. | .fptr _ => some (True, x)
  | .clo (.func _) _ _ => some (True, x)
  | _ => none
def aFieldAddr (P : Program) (t : TypeId) (x : AV) (f : Nat) : PV :=
  match P.underlying t, x with
  | some (.struct fs), .ptr id g i c =>
    match fs[f]? with
    | some f => some (tsz P f.type ≠ some 0 ∧ (tsz P f.type).isSome = true, .ptr id g i (c + f.offset))
    | none => none
  | some (.struct fs), .fptr cs =>
    match fs[f]? with
    | some f => some (tsz P f.type ≠ some 0 ∧ (tsz P f.type).isSome = true ∧ f.offset ≤ cs.length, .fptr (cs.drop f.offset))
    | none => none
  | _, _ => none
def aIndexAddr (P : Program) (t : TypeId) (x i : AV) : PV :=
  match P.underlying t, x, i with
  | some (.slice e), .tree sz es, .int _ i => some ((0 ≤ i ∧ i < es.length) ∧ tsz P e = some sz, .fptr (es.getD i.toNat []))
  | some (.slice e), .arr id g sz off len, .int _ i => some ((0 ≤ i ∧ i < len) ∧ tsz P e = some sz, .ptr id g (off + i.toNat) 0)
  | some (.slice e), .nils, .int _ _ => some (False, .fptr [])
  | some (.array n e), .ptr id g j c, .int _ i =>
    match tsz P e with
    | some z => some ((0 ≤ i ∧ i < n), .ptr id g j (c + i.toNat * z))
    | none => none
  | some (.array n e), .fptr cs, .int _ i =>
    match tsz P e with
    | some z => some ((0 ≤ i ∧ i < n) ∧ i.toNat * z ≤ cs.length, .fptr (cs.drop (i.toNat * z)))
    | none => none
  | _, _, _ => none
def aLoadF (P : Program) (t : TypeId) (x : AV) : PV :=
  match x with
  | .fptr cs =>
    match aggT P t, tsz P t with
    | some true, some n => some (n ≤ cs.length, .agg (cs.take n))
    | some false, _ => some (0 < cs.length, cs.getD 0 .junk)
    | _, _ => none
  | _ => none
def aMkI (P : Program) (t : TypeId) (x : AV) : PV :=
  match P.underlying t with
  | some (.interface _) => none
  | some _ => some (True, .iface t x)
  | none => none
def aPick (c x y : AV) : PV :=
  match c, x, y with
  | .bool b, .bool true, .bool y => some (True, .bool (b || y))
  | .bool b, .bool x, .bool false => some (True, .bool (b && x))
  | .bool b, .bool true, .opt g (.bool y) => some (b = false → g = true, .bool (b || y))
  | .bool b, .opt g (.bool x), .bool false => some (b = true → g = true, .bool (b && x))
  | _, _, _ => none
def aCells : AV → Option (List AV)
  | .agg cs => some cs
  | .junk => none
  | .opt _ _ => none
  | .tup _ => none
  | v => some [v]
def isCell : AV → Bool
  | .agg _ => false
  | .junk => false
  | .opt _ _ => false
  | .tup _ => false
  | _ => true
def splice (l : List AV) (f : Nat) (cs : List AV) : List AV := l.take f ++ cs ++ l.drop (f + cs.length)
def zeroC (P : Program) (t : TypeId) : Option (List AV) := ((P.info? t).bind (·.zero)).map fun z => z.cells.toList.map absS
def fldOf (P : Program) (t : TypeId) (f : Nat) : Option (Nat × Nat) :=
  match P.underlying t with
  | some (.struct fs) => (fs[f]?).bind fun fd => (tsz P fd.type).map fun n => (fd.offset, n)
  | _ => none
def szsOf (P : Program) (t : TypeId) : Bool :=
  match P.underlying t with
  | some (.struct fs) => fs.toList.all fun f => (tsz P f.type).isSome
  | _ => false
def aFill (P : Program) (t : TypeId) : List (Nat × AV) → List AV → Option (Prop × List AV)
  | [], cs => some (True, cs)
  | (i, v) :: ps, cs =>
    match fldOf P t i, aCells v with
    | some (off, n), some vs => (aFill P t ps (splice cs off vs)).map fun p => ((vs.length = n ∧ off + vs.length ≤ cs.length) ∧ p.1, p.2)
    | _, _ => none
def aBuild (P : Program) (t : TypeId) (ps : List (Nat × AV)) : PV :=
  match zeroC P t with
  | some z => (aFill P t ps z).map fun p => (szsOf P t = true ∧ p.1, .agg p.2)
  | none => none
def unO : AV → AV
  | .opt _ v => v
  | v => v
def unC : AV → Prop
  | .opt g _ => g = true
  | _ => True
def aMin (x y : AV) : PV :=
  match x, y with
  | .int k a, .int _ b => some (True, .int k (if b < a then b else a))
  | _, _ => none
def aMax (x y : AV) : PV :=
  match x, y with
  | .int k a, .int _ b => some (True, .int k (if b > a then b else a))
  | _, _ => none
def aBuiltin (P : Program) (ev : Operand → AV) (c : Call) : PV :=
  match c.callee, c.args.toList, c.argTypes.toList with
  | .builtin .len, [x], [t] => aLen P t (ev x)
  | .builtin .min, [x, y], _ => aMin (ev x) (ev y)
  | .builtin .max, [x, y], _ => aMax (ev x) (ev y)
  | _, _, _ => none
def pureOp1 (P : Program) (ev : Operand → AV) : Op → PV
  | .binOp op t x y _ => aBinOp P op t (ev x) (ev y)
  | .unOp op _ x => aUn op (ev x)
  | .convert s d x => aConv P s d (ev x)
  | .makeInterface t x => aMkI P t (ev x)
  | .makeFunc fn fi ca => some (True, .clo fn (fi.toList.map ev) (ca.toList.map ev))
  | .slice t x lo hi none => aSlice P t (ev x) (lo.map ev) (hi.map ev)
  | .index t x i => aIndex P t (ev x) (ev i)
  | .field t x f => aField P t (ev x) f
  | .extract x i => aExtract (ev x) i
  | .nilCheck x => aNil (ev x)
  | .fieldAddr t x f => aFieldAddr P t (ev x) f
  | .indexAddr t x i => aIndexAddr P t (ev x) (ev i)
  | .load t x => aLoadF P t (ev x)
  | .call c => aBuiltin P ev c
  | .build t parts => aBuild P t (parts.toList.map fun p => (p.1, ev p.2))
  | _ => none
end Go.Abs

/- THE ABSTRACT MEMORY (part 5): what each operation that only reckons yields is what the machine yields. -/
namespace Go.Abs
open Go.RowKit
section
variable {κ : K} {w : World} {P : Program}
def Yields (κ : K) (P : Program) (s : Sem Value) (w : World) (v : AV) : Prop := ∃ cv, s.run P w = .ok cv w ∧ VR κ v cv
def ngd (a b : Value) : Bool := match a, b with | .nilIface, .nilIface => false | .agg _, .agg _ => false | _, _ => true
theorem eqGuard_int (op : BinOp) (t : TypeId) (ox oy : Operand) (a b : Value) (h : ngd a b = true) :
    (eqGuard op t ox oy a b).run P w = .ok () w := by
  unfold eqGuard
  cases op <;> cases a <;> cases b <;> simp_all [ngd]
theorem aInt_ok {op : BinOp} {k k' : IntKind} {a b : Int} {c : Prop} {v : AV} (hk : isShift op = true ∨ k = k') (h : aInt op k a b = some (c, v)) (hc : c) (t : TypeId) :
    Yields κ P (Go.binOp op t (.int k a) (.int k' b)) w v := by
  cases op <;> simp only [aInt, Option.some.injEq, Prod.mk.injEq] at h <;> obtain ⟨rfl, rfl⟩ := h <;> simp only [isShift, Bool.false_eq_true, false_or, true_or] at hk
  case shl => exact ⟨_, by simp [Go.binOp, Op.shift, show ¬ b < 0 from by omega]; rfl, by simp [VR]⟩
  case shr => exact ⟨_, by simp [Go.binOp, Op.shift, show ¬ b < 0 from by omega]; rfl, by simp [VR]⟩
  case quo => subst hk; exact ⟨_, by simp [Go.binOp, Op.intDiv, show ¬ b = 0 from hc]; rfl, by simp [VR]⟩
  case rem => subst hk; exact ⟨_, by simp [Go.binOp, Op.intDiv, show ¬ b = 0 from hc]; rfl, by simp [VR]⟩
  all_goals subst hk; exact ⟨_, by simp [Go.binOp, Op.intArith, Op.intBits, Op.intCmp]; rfl, by simp [VR, ibits]⟩
theorem aStr_ok {op : BinOp} {a b : List UInt8} {c : Prop} {v : AV} (h : aStr op a b = some (c, v)) (hc : c) (t : TypeId) :
    Yields κ P (Go.binOp op t (.string ⟨a.toArray⟩) (.string ⟨b.toArray⟩)) w v := by
  cases op <;> simp only [aStr, Option.some.injEq, Prod.mk.injEq, reduceCtorEq] at h <;> obtain ⟨rfl, rfl⟩ := h
  case add =>
    refine ⟨.string (⟨a.toArray⟩ ++ ⟨b.toArray⟩), ?_, ?_⟩
    · have h9 : IntKind.i64.max = 9223372036854775807 := by decide
      simp [Go.binOp, Op.stringOp, ByteArray.size, h9]
      omega
    · simp only [VR, Value.string.injEq]
      have : ∀ x y : ByteArray, x.data.toList = y.data.toList → x = y := fun x y e => by cases x; cases y; simp at e; simp [e]
      apply this
      rw [Joins.data_append]
  all_goals exact ⟨_, by simp [Go.binOp, Op.stringOp]; rfl, by simp [VR]⟩
theorem aBin_ok {op : BinOp} {x y : AV} {cx cy : Value} {c : Prop} {v : AV} (h : aBin op x y = some (c, v)) (hc : c) (hx : VR κ x cx) (hy : VR κ y cy) (t : TypeId) (ox oy : Operand) :
    Yields κ P (do eqGuard op t ox oy cx cy; Go.binOp op t cx cy) w v := by
  unfold aBin at h
  split at h
  · rename_i k a k' b
    simp only [VR] at hx hy
    subst hx; subst hy
    split at h
    · rename_i hk
      obtain ⟨cv, hr, hv⟩ := aInt_ok (κ := κ) (P := P) (w := w) hk h hc t
      exact ⟨cv, by rw [Sem.run_bind, eqGuard_int op t ox oy _ _ rfl]; exact hr, hv⟩
    · cases h
  · simp only [VR] at hx hy
    subst hx; subst hy
    obtain ⟨cv, hr, hv⟩ := aStr_ok (κ := κ) (P := P) (w := w) h hc t
    exact ⟨cv, by rw [Sem.run_bind, eqGuard_int op t ox oy _ _ rfl]; exact hr, hv⟩
  · cases h
theorem equalIn_ok {t : TypeId} {x y : AV} {cx cy : Value} {b : Bool} (h : aEq P t x y = some b) (hx : VR κ x cx) (hy : VR κ y cy) :
    (Op.equal t cx cy).run P w = .ok b w ∧ ngd cx cy = true ∧
    (∀ op, op = .eql ∨ op = .neq → Go.binOp op t cx cy = (if op = .eql then (do pure (.bool (← Op.equal t cx cy))) else (do pure (.bool (!(← Op.equal t cx cy)))) : Sem Value)) := by
  unfold aEq at h
  split at h <;> first | cases h | skip
  all_goals (rename_i hu; simp only [VR] at hx hy)
  all_goals first
    | (obtain ⟨_, _, rfl, _⟩ := hx; subst hy)
    | (obtain ⟨_, _, rfl, _⟩ := hy; subst hx)
    | (obtain ⟨_, _, _, rfl, _⟩ := hx; subst hy)
    | (obtain ⟨_, _, _, rfl, _⟩ := hy; subst hx)
    | (obtain ⟨_, rfl, _⟩ := hx; subst hy)
    | (obtain ⟨_, rfl, _⟩ := hy; subst hx)
    | (obtain ⟨_, _, _, rfl, _⟩ := hx; subst hy)
    | (obtain ⟨_, _, _, rfl, _⟩ := hy; subst hx)
    | (subst hx; subst hy)
  all_goals refine ⟨?_, rfl, ?_⟩
  all_goals first
    | (rintro op (rfl | rfl) <;> rfl)
    | (rw [Op.equal, show Op.maxDepth = Nat.succ 9999 from rfl, Op.equalIn]; simp [run_underlying hu])
end
end Go.Abs

/- THE ABSTRACT MEMORY (part 6): what each operation that only reckons yields is what the machine yields: the rest. -/
namespace Go.Abs
open Go.RowKit
section
variable {κ : K} {w : World} {P : Program}
theorem VRs_len : ∀ {as : List AV} {vs : List Value}, VRs κ as vs → vs.length = as.length
  | [], _, h => by simp only [VRs] at h; simp [h]
  | a :: as, _, h => by simp only [VRs] at h; obtain ⟨v, vs, rfl, _, h2⟩ := h; simp [VRs_len h2]
theorem VRs_get : ∀ {as : List AV} {vs : List Value} (_ : VRs κ as vs) {i : Nat} (_ : i < as.length), ∃ v, vs[i]? = some v ∧ VR κ (as.getD i .junk) v
  | [], _, _, i, hi => by simp at hi
  | a :: as, _, h, i, hi => by
    simp only [VRs] at h
    obtain ⟨v, vs, rfl, h1, h2⟩ := h
    cases i with
    | zero => exact ⟨v, rfl, h1⟩
    | succ i => exact VRs_get h2 (i := i) (by simpa using hi)
theorem VRs_drop : ∀ (n : Nat) {as : List AV} {vs : List Value}, VRs κ as vs → VRs κ (as.drop n) (vs.drop n)
  | 0, _, _, h => h
  | n + 1, [], _, h => by simp only [VRs] at h; subst h; simp [VRs]
  | n + 1, a :: as, _, h => by simp only [VRs] at h; obtain ⟨v, vs, rfl, _, h2⟩ := h; exact VRs_drop n h2
theorem VRs_take : ∀ (n : Nat) {as : List AV} {vs : List Value}, VRs κ as vs → VRs κ (as.take n) (vs.take n)
  | 0, _, _, h => by simp [VRs]
  | n + 1, [], _, h => by simp only [VRs] at h; subst h; simp [VRs]
  | n + 1, a :: as, _, h => by
    simp only [VRs] at h; obtain ⟨v, vs, rfl, h1, h2⟩ := h
    simp only [List.take_succ_cons, VRs]
    exact ⟨v, _, rfl, h1, VRs_take n h2⟩
theorem VRs_append : ∀ {as bs : List AV} {vs ws : List Value}, VRs κ as vs → VRs κ bs ws → VRs κ (as ++ bs) (vs ++ ws)
  | [], _, _, _, h, h' => by simp only [VRs] at h; subst h; exact h'
  | a :: as, _, _, _, h, h' => by
    simp only [VRs] at h; obtain ⟨v, vs, rfl, h1, h2⟩ := h
    simp only [List.cons_append, VRs]
    exact ⟨v, _, rfl, h1, VRs_append h2 h'⟩
theorem VRF_get {rd : Nat → Option Value} : ∀ {cs : List AV} {o : Nat} (_ : VRF κ rd cs o) {i : Nat} (_ : i < cs.length), ∃ v, rd (o + i) = some v ∧ VR κ (cs.getD i .junk) v
  | [], _, _, i, hi => by simp at hi
  | a :: as, o, h, i, hi => by
    simp only [VRF] at h
    obtain ⟨⟨v, h1, h2⟩, h3⟩ := h
    cases i with
    | zero => exact ⟨v, h1, h2⟩
    | succ i =>
      obtain ⟨v, h4, h5⟩ := VRF_get h3 (i := i) (by simpa using hi)
      exact ⟨v, by rw [← h4]; congr 1; omega, h5⟩
theorem VRF_drop {rd : Nat → Option Value} : ∀ (n : Nat) {cs : List AV} {o : Nat}, VRF κ rd cs o → n ≤ cs.length → VRF κ rd (cs.drop n) (o + n)
  | 0, _, _, h, _ => h
  | n + 1, [], _, h, hn => by simp at hn
  | n + 1, a :: as, o, h, hn => by
    simp only [VRF] at h
    have := VRF_drop n h.2 (by simpa using hn)
    rw [show o + (n + 1) = o + 1 + n from by omega]
    exact this
theorem VRF_take {rd : Nat → Option Value} : ∀ (n : Nat) {cs : List AV} {o : Nat}, VRF κ rd cs o → VRF κ rd (cs.take n) o
  | 0, _, _, h => by simp [VRF]
  | n + 1, [], _, h => by simp [VRF]
  | n + 1, a :: as, o, h => by simp only [VRF] at h; simp only [List.take_succ_cons, VRF]; exact ⟨h.1, VRF_take n h.2⟩
theorem VRF_read {rd : Nat → Option Value} : ∀ {cs : List AV} {o : Nat}, VRF κ rd cs o → ∃ vs : List Value, vs.length = cs.length ∧ VRs κ cs vs ∧ ∀ j v, vs[j]? = some v → rd (o + j) = some v
  | [], o, h => ⟨[], rfl, by simp [VRs], by simp⟩
  | a :: as, o, h => by
    simp only [VRF] at h
    obtain ⟨⟨v, h1, h2⟩, h3⟩ := h
    obtain ⟨vs, h4, h5, h6⟩ := VRF_read h3
    refine ⟨v :: vs, by simp [h4], by simp only [VRs]; exact ⟨v, vs, rfl, h2, h5⟩, ?_⟩
    intro j u hu
    cases j with
    | zero => simp at hu; subst hu; exact h1
    | succ j => have := h6 j u (by simpa using hu); rw [← this]; congr 1; omega
theorem VRE_get {rd : Nat → Option Value} {sz : Nat} : ∀ {es : List (List AV)} {o : Nat} (_ : VRE κ rd sz es o) {i : Nat} (_ : i < es.length), (es.getD i []).length = sz ∧ VRF κ rd (es.getD i []) (o + i * sz)
  | [], _, _, i, hi => by simp at hi
  | a :: as, o, h, i, hi => by
    simp only [VRE] at h
    obtain ⟨h1, h2, h3⟩ := h
    cases i with
    | zero => simpa using ⟨h1, h2⟩
    | succ i =>
      have := VRE_get h3 (i := i) (by simpa using hi)
      rw [show o + (i + 1) * sz = o + sz + i * sz from by rw [Nat.add_mul]; omega]
      exact this
theorem VRE_drop {rd : Nat → Option Value} {sz : Nat} : ∀ (n : Nat) {es : List (List AV)} {o : Nat}, VRE κ rd sz es o → n ≤ es.length → VRE κ rd sz (es.drop n) (o + n * sz)
  | 0, _, _, h, _ => by simpa using h
  | n + 1, [], _, h, hn => by simp at hn
  | n + 1, a :: as, o, h, hn => by
    simp only [VRE] at h
    have := VRE_drop n h.2.2 (by simpa using hn)
    rw [show o + (n + 1) * sz = o + sz + n * sz from by rw [Nat.add_mul]; omega]
    exact this
theorem VRE_take {rd : Nat → Option Value} {sz : Nat} : ∀ (n : Nat) {es : List (List AV)} {o : Nat}, VRE κ rd sz es o → VRE κ rd sz (es.take n) o
  | 0, _, _, h => by simp [VRE]
  | n + 1, [], _, h => by simp [VRE]
  | n + 1, a :: as, o, h => by simp only [VRE] at h; simp only [List.take_succ_cons, VRE]; exact ⟨h.1, h.2.1, VRE_take n h.2.2⟩
theorem run_sz {t : TypeId} {n : Nat} (h : tsz P t = some n) (w : World) : (sizeOf t).run P w = .ok n w := by
  unfold tsz at h
  cases hi : P.info? t with
  | none => simp [hi] at h
  | some i => simp [hi] at h; simp [sizeOf, typeInfo, hi, h]
theorem run_agg {t : TypeId} {b : Bool} (h : aggT P t = some b) (w : World) : (isAgg t).run P w = .ok b w := by
  unfold aggT at h
  split at h <;> first | cases h | skip
  all_goals rename_i hu
  · simp [isAgg, run_underlying hu]
  · simp [isAgg, run_underlying hu]
  · rename_i d h1 h2
    simp only [isAgg, Sem.run_bind, run_underlying hu, Result.andThen]
    rfl
theorem aUn_ok {op : UnOp} {x : AV} {cx : Value} {c : Prop} {v : AV} (h : aUn op x = some (c, v)) (hc : c) (hx : VR κ x cx) : Yields κ P (Op.unary op cx) w v := by
  unfold aUn at h
  split at h <;> first | cases h | skip
  all_goals (simp only [VR] at hx; subst hx)
  · exact ⟨_, by simp [Op.unary, Op.intArith]; rfl, by simp [VR]⟩
  · exact ⟨_, by simp [Op.unary, Op.intBits]; rfl, by simp [VR, ibits]⟩
  · exact ⟨_, by simp [Op.unary]; rfl, by simp [VR]⟩
theorem aConv_ok {s d : TypeId} {x : AV} {cx : Value} {c : Prop} {v : AV} (h : aConv P s d x = some (c, v)) (hc : c) (hx : VR κ x cx) : Yields κ P (Go.convert s d cx) w v := by
  unfold aConv at h
  split at h <;> first | cases h | skip
  all_goals (rename_i hs hd; simp only [VR] at hx; subst hx)
  · exact ⟨_, by simp [Go.convert, run_underlying hs, run_underlying hd, Conv.intToInt]; rfl, by simp [VR]⟩
  · rename_i u _
    cases u <;> exact ⟨_, by simp [Go.convert, run_underlying hs, run_underlying hd]; rfl, by simp [VR]⟩
  · rename_i u _
    cases u <;> exact ⟨_, by simp [Go.convert, run_underlying hs, run_underlying hd, Conv.intToString]; rfl, by simp [VR]⟩
theorem aPart_ok {t : TypeId} {cs : List AV} {vs : Array Value} {off : Nat} {c : Prop} {v : AV} (h : aPart P t cs off = some (c, v)) (hc : c) (hx : VRs κ cs vs.toList) : Yields κ P (part t vs off) w v := by
  unfold aPart at h
  split at h <;> first | cases h | skip
  · rename_i n ha hn
    refine ⟨.agg (vs.extract off (off + n)), by simp [part, run_agg ha, run_sz hn], ?_⟩
    simp only [VR]
    refine ⟨_, rfl, ?_⟩
    have := VRs_take n (VRs_drop off hx)
    simpa [Array.toList_extract, List.take_drop] using this
  · rename_i ha
    obtain ⟨u, hu, hv⟩ := VRs_get hx hc
    exact ⟨u, by simp [part, run_agg ha]; simp at hu; simp [hu], hv⟩
theorem aField_ok {t : TypeId} {x : AV} {cx : Value} {f : Nat} {c : Prop} {v : AV} (h : aField P t x f = some (c, v)) (hc : c) (hx : VR κ x cx) : Yields κ P (Instr.field t cx f) w v := by
  unfold aField at h
  split at h <;> first | cases h | skip
  rename_i fs cs hu
  simp only [VR] at hx
  obtain ⟨vs, rfl, hx⟩ := hx
  split at h <;> first | cases h | skip
  rename_i fd hf
  obtain ⟨cv, hr, hv⟩ := aPart_ok (w := w) h hc hx
  exact ⟨cv, by simp [Instr.field, run_underlying hu, hf, asAgg, hr], hv⟩
theorem aExtract_ok {x : AV} {cx : Value} {i : Nat} {c : Prop} {v : AV} (h : aExtract x i = some (c, v)) (hc : c) (hx : VR κ x cx) : Yields κ P (Instr.extract cx i) w v := by
  unfold aExtract at h
  split at h <;> first | cases h | skip
  simp only [VR] at hx
  obtain ⟨vs, rfl, hx⟩ := hx
  obtain ⟨u, hu, hv⟩ := VRs_get hx hc
  simp at hu
  exact ⟨u, by simp [Instr.extract, hu], hv⟩
theorem aLen_ok {t ty : TypeId} {x : AV} {cx : Value} {c : Prop} {v : AV} (h : aLen P t x = some (c, v)) (hc : c) (hx : VR κ x cx) : Yields κ P (Builtin.len_ #[t] ty #[cx]) w v := by
  unfold aLen at h
  split at h <;> first | cases h | skip
  all_goals rename_i hu
  · simp only [VR] at hx; subst hx; exact ⟨_, by simp [Builtin.len_, run_underlying hu]; rfl, by simp [VR, goInt, ByteArray.size]⟩
  · simp only [VR] at hx
    rcases hx with ⟨rfl, rfl⟩ | ⟨a, cap, rfl, _, _⟩
    · exact ⟨_, by simp [Builtin.len_, run_underlying hu]; rfl, by simp [VR, goInt]⟩
    · exact ⟨_, by simp [Builtin.len_, run_underlying hu]; rfl, by simp [VR, goInt]⟩
  · simp only [VR] at hx; obtain ⟨b, cap, L, rfl, _, _, _⟩ := hx; exact ⟨_, by simp [Builtin.len_, run_underlying hu]; rfl, by simp [VR, goInt]⟩
  · simp only [VR] at hx; subst hx; exact ⟨_, by simp [Builtin.len_, run_underlying hu]; rfl, by simp [VR, goInt]⟩
  · exact ⟨_, by simp [Builtin.len_, run_underlying hu]; rfl, by simp [VR, goInt]⟩
  · simp only [VR] at hx; subst hx; exact ⟨_, by simp [Builtin.len_, run_underlying hu]; rfl, by simp [VR, goInt]⟩
theorem aMkI_ok {t : TypeId} {x : AV} {cx : Value} {c : Prop} {v : AV} (h : aMkI P t x = some (c, v)) (hc : c) (hx : VR κ x cx) : Yields κ P (Instr.makeInterface t cx) w v := by
  unfold aMkI at h
  split at h <;> first | cases h | skip
  rename_i d hd hu
  refine ⟨.iface t cx, ?_, by simp only [VR]; exact ⟨cx, rfl, hx⟩⟩
  simp only [Instr.makeInterface, Sem.run_bind, run_underlying hu, Result.andThen]
  rfl
theorem aIndex_ok {t : TypeId} {x i : AV} {cx ci : Value} {c : Prop} {v : AV} (h : aIndex P t x i = some (c, v)) (hc : c) (hx : VR κ x cx) (hi : VR κ i ci) : Yields κ P (Instr.index t cx ci) w v := by
  unfold aIndex at h
  split at h <;> first | cases h | skip
  · rename_i s k n hu
    simp only [VR] at hx hi
    subst hx; subst hi
    have hlt : n.toNat < s.length := by omega
    refine ⟨.int .u8 ((s.getD n.toNat 0).toNat : Int), ?_, by simp [VR]⟩
    rw [run_index_string w t _ k n hu, dif_pos (by simpa [ByteArray.size] using hc)]
    have : (⟨s.toArray⟩ : ByteArray)[n.toNat]'(by simpa [ByteArray.size] using hlt) = s.getD n.toNat 0 := by
      have : (⟨s.toArray⟩ : ByteArray)[n.toNat]'(by simpa [ByteArray.size] using hlt) = s[n.toNat] := rfl
      rw [this]; simp [List.getD, List.getElem?_eq_getElem hlt]
    rw [this]
  · rename_i m e cs k n hu
    split at h <;> first | cases h | skip
    rename_i z hz
    simp only [Option.map_eq_some_iff, Prod.mk.injEq] at h
    obtain ⟨⟨c', v'⟩, hp, rfl, rfl⟩ := h
    simp only [VR] at hx hi
    obtain ⟨vs, rfl, hx⟩ := hx
    subst hi
    obtain ⟨cv, hr, hv⟩ := aPart_ok (w := w) hp hc.2 hx
    exact ⟨cv, by simp [Instr.index, asIntOf, run_underlying hu, hc.1, run_sz hz, hr], hv⟩
theorem aNil_ok {x : AV} {c : Prop} {v : AV} {o : Oper} {ρ : Operand → Value} {ox : Operand} (ho : o.op = .nilCheck ox) (h : aNil x = some (c, v)) (hc : c) (hx : VR κ x (ρ ox)) :
    ∃ cv, (execOp ρ o).run P w = .ok (.value cv) w ∧ VR κ v cv := by
  unfold aNil at h
  split at h <;> first | cases h | skip
  · have h2 := hx
    simp only [VR] at hx; obtain ⟨a, L, e, _⟩ := hx; rw [e] at h2; exact ⟨_, by simp [execOp, ho, e], h2⟩
  · have h2 := hx
    simp only [VR] at hx; obtain ⟨b, o', e, _⟩ := hx; rw [e] at h2; exact ⟨_, by simp [execOp, ho, e], h2⟩
  · have h2 := hx
    simp only [VR] at hx; obtain ⟨b, o', e, _⟩ := hx; rw [e] at h2; exact ⟨_, by simp [execOp, ho, e], h2⟩
end
end Go.Abs

/- THE ABSTRACT MEMORY (part 7): addresses, slices; the rule of an operation that only reckons. -/
namespace Go.Abs
open Go.RowKit
theorem spot_add {a : Addr} (h : a.spot = none) (n : Nat) : (a.add n).spot = none := by unfold Addr.add; split <;> simp_all
theorem addr_add (b o n : Nat) : (⟨b, o, none⟩ : Addr).add n = ⟨b, o + n, none⟩ := by unfold Addr.add; split <;> simp_all
section
variable {E : Env} {κ : K} {st : St} {w : World} {P : Program}
theorem fieldPlace_ok {a : Addr} {f : Field} {n : Nat} (hn : tsz P f.type = some n) (h0 : n ≠ 0) (w : World) : (fieldPlace a f).run P w = .ok (a.add f.offset) w := by
  simp [fieldPlace, run_sz hn, h0]
theorem aFieldAddr_ok {t : TypeId} {x : AV} {cx : Value} {f : Nat} {c : Prop} {v : AV} (h : aFieldAddr P t x f = some (c, v)) (hc : c) (hx : VR κ x cx) : Yields κ P (Instr.fieldAt t cx f) w v := by
  unfold aFieldAddr at h
  split at h <;> first | cases h | skip
  all_goals
    rename_i hu
    split at h <;> first | cases h | skip
    rename_i fd hf
    simp only [VR] at hx
  · obtain ⟨a, L, rfl, hL, hg, ha⟩ := hx
    obtain ⟨n, hn⟩ := Option.isSome_iff_exists.1 hc.2
    have h0 : n ≠ 0 := fun e => hc.1 (by rw [hn, e])
    refine ⟨.pointer (some (a.add fd.offset)), by simp [Instr.fieldAt, run_underlying hu, hf, Instr.sureAddr, fieldPlace_ok hn h0], ?_⟩
    simp only [VR]
    refine ⟨_, L, rfl, hL, hg, fun e => ?_⟩
    rw [ha e, addr_add]
    simp only [Addr.mk.injEq, true_and, and_true]
    omega
  · obtain ⟨b, o, rfl, hF⟩ := hx
    obtain ⟨n, hn⟩ := Option.isSome_iff_exists.1 hc.2.1
    have h0 : n ≠ 0 := fun e => hc.1 (by rw [hn, e])
    refine ⟨.pointer (some ⟨b, o + fd.offset, none⟩), by simp [Instr.fieldAt, run_underlying hu, hf, Instr.sureAddr, fieldPlace_ok hn h0, addr_add], ?_⟩
    simp only [VR]
    exact ⟨b, _, rfl, VRF_drop _ hF hc.2.2⟩
theorem aIndexAddr_ok {t : TypeId} {x i : AV} {cx ci : Value} {c : Prop} {v : AV} (h : aIndexAddr P t x i = some (c, v)) (hc : c) (hx : VR κ x cx) (hi : VR κ i ci) : Yields κ P (Instr.indexAt t cx ci) w v := by
  unfold aIndexAddr at h
  split at h <;> first | cases h | skip
  all_goals
    rename_i hu
    simp only [VR] at hx hi
    subst hi
  · rename_i e sz es k i
    have hlt : i.toNat < es.length := by omega
    rcases hx with ⟨rfl, rfl⟩ | ⟨⟨b, o, sp⟩, cap, rfl, hlc, hsp, hE⟩
    · simp at hlt
    obtain rfl : sp = none := by rcases hsp with rfl | h; { simp at hlt }; { exact h }
    dsimp only at hE
    refine ⟨.pointer (some ⟨b, o + i.toNat * sz, none⟩), ?_, ?_⟩
    · simp [Instr.indexAt, asIntOf, run_underlying hu, hc.1, run_sz hc.2, addr_add]
    · simp only [VR]
      exact ⟨b, _, rfl, (VRE_get hE hlt).2⟩
  · rename_i e id g sz off len k i
    obtain ⟨a, cap, L, rfl, hlc, hL, hs, hg, ha⟩ := hx
    refine ⟨.pointer (some (a.add (i.toNat * sz))), ?_, ?_⟩
    · simp [Instr.indexAt, asIntOf, run_underlying hu, hc.1, run_sz hc.2]
    · simp only [VR]
      refine ⟨_, L, rfl, hL, hg, fun e => ?_⟩
      have hlt := hc.1
      rcases ha e with ⟨h1, h2, h3⟩ | ⟨h1, h2⟩
      · rw [h1, addr_add, hs, Nat.add_mul]; rfl
      · omega
  · exact hc.elim
  · rename_i n e id g j c' k i
    split at h <;> first | cases h | skip
    rename_i z hz
    obtain ⟨a, L, rfl, hL, hg, ha⟩ := hx
    refine ⟨.pointer (some (a.add (i.toNat * z))), ?_, ?_⟩
    · simp [Instr.indexAt, asIntOf, run_underlying hu, hc, run_sz hz, Instr.sureAddr]
    · simp only [VR]
      refine ⟨_, L, rfl, hL, hg, fun e => ?_⟩
      rw [ha e, addr_add]
      simp only [Addr.mk.injEq, true_and, and_true]
      omega
  · rename_i n e cs k i
    split at h <;> first | cases h | skip
    rename_i z hz
    obtain ⟨b, o, rfl, hF⟩ := hx
    refine ⟨.pointer (some ⟨b, o + i.toNat * z, none⟩), ?_, ?_⟩
    · simp [Instr.indexAt, asIntOf, run_underlying hu, hc.1, run_sz hz, Instr.sureAddr, addr_add]
    · simp only [VR]
      exact ⟨b, _, rfl, VRF_drop _ hF hc.2⟩
theorem bound_ok {x : Option AV} {cx : Option Value} {d : Int} {n : Int} (h : aBound x d = some n) (hx : (x = none ∧ cx = none) ∨ ∃ a b, x = some a ∧ cx = some b ∧ VR κ a b) :
    (cx = none ∧ n = d) ∨ ∃ k, cx = some (.int k n) := by
  rcases hx with ⟨rfl, rfl⟩ | ⟨a, b, rfl, rfl, hv⟩
  · simp only [aBound, Option.some.injEq] at h; exact .inl ⟨rfl, h.symm⟩
  · cases a <;> simp only [aBound, reduceCtorEq, Option.some.injEq] at h
    subst h
    simp only [VR] at hv
    exact .inr ⟨_, by rw [hv]⟩
theorem sliceBounds_ok {isS : Bool} {len cap : Nat} {lo hi : Option Value} {l h : Int} (hl : (lo = none ∧ l = 0) ∨ ∃ k, lo = some (.int k l)) (hh : (hi = none ∧ h = len) ∨ ∃ k, hi = some (.int k h))
    (h1 : 0 ≤ l) (h2 : l ≤ h) (h3 : h ≤ len) (h4 : len ≤ cap) : (Instr.sliceBounds isS len cap lo hi none).run P w = .ok (l.toNat, h.toNat, cap) w := by
  have hb1 : ∀ (k : IntKind) (n : Int) (y : Nat) (code : BoundsCode), 0 ≤ n → n ≤ y → (Instr.sliceBound (.int k n) y code).run P w = .ok n.toNat w := by
    intro k n y code a b
    simp [Instr.sliceBound, asIntOf, a, b]
  rcases hl with ⟨rfl, rfl⟩ | ⟨k, rfl⟩ <;> rcases hh with ⟨rfl, rfl⟩ | ⟨k', rfl⟩
  · simp [Instr.sliceBounds]
  · simp [Instr.sliceBounds, hb1 k' h cap _ (by omega) (by omega)]
  · simp [Instr.sliceBounds, hb1 k l len _ h1 (by omega)]
  · simp [Instr.sliceBounds, hb1 k' h cap _ (by omega) (by omega), hb1 k l h.toNat _ h1 (by omega)]
theorem aSlice_ok {t : TypeId} {x : AV} {cx : Value} {lo hi : Option AV} {clo chi : Option Value} {c : Prop} {v : AV} (h : aSlice P t x lo hi = some (c, v)) (hc : c) (hx : VR κ x cx)
    (hlo : (lo = none ∧ clo = none) ∨ ∃ a b, lo = some a ∧ clo = some b ∧ VR κ a b) (hhi : (hi = none ∧ chi = none) ∨ ∃ a b, hi = some a ∧ chi = some b ∧ VR κ a b) :
    Yields κ P (Instr.sliceAt t cx clo chi none) w v := by
  unfold aSlice at h
  split at h <;> first | cases h | skip
  · rename_i s hu
    split at h <;> first | cases h | skip
    rename_i l h' hl hh
    have bl := bound_ok hl hlo
    have bh := bound_ok hh hhi
    simp only [VR] at hx
    subst hx
    have hb := sliceBounds_ok (P := P) (w := w) (isS := false) (cap := s.length) bl bh hc.1 hc.2.1 (by omega) (Nat.le_refl _)
    refine ⟨.string ((⟨s.toArray⟩ : ByteArray).extract l.toNat h'.toNat), ?_, ?_⟩
    · have : (⟨s.toArray⟩ : ByteArray).size = s.length := by simp [ByteArray.size]
      simp [Instr.sliceAt, Instr.slice, run_underlying hu, this, hb]
    · simp only [VR, Value.string.injEq]
      have : ∀ x y : ByteArray, x.data.toList = y.data.toList → x = y := fun x y e => by cases x; cases y; simp at e; simp [e]
      apply this
      rw [Lib.extract_data]
  · rename_i e sz es hu
    split at h <;> first | cases h | skip
    rename_i l h' hl hh
    have bl := bound_ok hl hlo
    have bh := bound_ok hh hhi
    simp only [VR] at hx
    rcases hx with ⟨rfl, rfl⟩ | ⟨a, cap, rfl, hcap, hsp, hE⟩
    · have hl0 : l = 0 := by have := hc.1.2.2; simp at this; omega
      have hh0 : h' = 0 := by have := hc.1.2.2; simp at this; omega
      subst hl0; subst hh0
      have hb := sliceBounds_ok (P := P) (w := w) (isS := true) (len := 0) (cap := 0) bl bh (by omega) (by omega) (by omega) (by omega)
      refine ⟨.slice none 0 0, ?_, by simp [VR]⟩
      simp [Instr.sliceAt, Instr.slice, run_underlying hu, Result.andThen, hb, run_sz hc.2]
    have hb := sliceBounds_ok (P := P) (w := w) (isS := true) (cap := cap) bl bh hc.1.1 hc.1.2.1 hc.1.2.2 hcap
    have hr : (Instr.sliceAt t (.slice (some a) es.length cap) clo chi none).run P w =
        .ok (.slice (some (if cap = l.toNat then a else a.add (l.toNat * sz))) (h'.toNat - l.toNat) (cap - l.toNat)) w := by
      simp only [Instr.sliceAt, Instr.slice, Sem.run_bind, run_underlying hu, Result.andThen, hb, run_sz hc.2]
      split <;> simp [*]
    have hlen : ((es.drop l.toNat).take (h'.toNat - l.toNat)).length = h'.toNat - l.toNat := by
      rw [List.length_take, List.length_drop]; omega
    by_cases he : cap = l.toNat
    · rw [if_pos he] at hr
      refine ⟨_, hr, ?_⟩
      simp only [VR]
      have h0 : h'.toNat - l.toNat = 0 := by omega
      refine .inr ⟨a, _, by rw [hlen], by omega, .inl (List.eq_nil_of_length_eq_zero (by rw [hlen, h0])), ?_⟩
      rw [h0]
      simp [VRE]
    · rw [if_neg he] at hr
      refine ⟨_, hr, ?_⟩
      simp only [VR]
      refine .inr ⟨_, _, by rw [hlen], by omega, ?_, ?_⟩
      · rcases hsp with rfl | hs
        · exact .inl (by simp)
        · exact .inr (spot_add hs _)
      · have h1 : (a.add (l.toNat * sz)).block = a.block := by unfold Addr.add; split <;> rfl
        have h2 : (a.add (l.toNat * sz)).off = a.off + l.toNat * sz := by unfold Addr.add; split <;> simp_all
        rw [h1, h2]
        exact VRE_take _ (VRE_drop _ hE (by omega))
  · rename_i e id g sz off len hu
    split at h <;> first | cases h | skip
    rename_i l h' hl hh
    have bl := bound_ok hl hlo
    have bh := bound_ok hh hhi
    simp only [VR] at hx
    obtain ⟨a, cap, L, rfl, hcap, hL, hs, hg, ha⟩ := hx
    have hb := sliceBounds_ok (P := P) (w := w) (isS := true) (cap := cap) bl bh hc.1.1 hc.1.2.1 hc.1.2.2 hcap.2
    have hr : (Instr.sliceAt t (.slice (some a) len cap) clo chi none).run P w =
        .ok (.slice (some (if cap = l.toNat then a else a.add (l.toNat * sz))) (h'.toNat - l.toNat) (cap - l.toNat)) w := by
      simp only [Instr.sliceAt, Instr.slice, Sem.run_bind, run_underlying hu, Result.andThen, hb, run_sz hc.2]
      split <;> simp [*]
    have hc1 := hc.1
    refine ⟨_, hr, ?_⟩
    simp only [VR]
    refine ⟨_, _, L, rfl, ⟨by split <;> simp [hcap.1, spot_add], by have := hcap.2; omega⟩, hL, hs, hg, fun e => ?_⟩
    have hcap2 := hcap.2
    by_cases he : cap = l.toNat
    · exact .inr ⟨by omega, by omega⟩
    · rw [if_neg he]
      rcases ha e with ⟨h1, h2, h3⟩ | ⟨h1, h2⟩
      · refine .inl ⟨?_, by omega, by omega⟩
        rw [h1, addr_add, Nat.add_mul]
      · omega
  · rename_i e hu
    split at h <;> first | cases h | skip
    rename_i l h' hl hh
    have bl := bound_ok hl hlo
    have bh := bound_ok hh hhi
    simp only [VR] at hx
    subst hx
    obtain ⟨rfl, rfl, hz⟩ := hc
    obtain ⟨z, hz⟩ := Option.isSome_iff_exists.1 hz
    have hb := sliceBounds_ok (P := P) (w := w) (isS := true) (len := 0) (cap := 0) bl bh (by omega) (by omega) (by omega) (by omega)
    exact ⟨.slice none 0 0, by simp [Instr.sliceAt, Instr.slice, run_underlying hu, hb, run_sz hz], by simp [VR]⟩
theorem aLoadF_ok {t : TypeId} {x : AV} {cx : Value} {c : Prop} {v : AV} (hR : Rel E κ st w) (h : aLoadF P t x = some (c, v)) (hc : c) (hx : VR κ x cx) : Yields κ P (Instr.loadAt t cx) w v := by
  unfold aLoadF at h
  split at h <;> first | cases h | skip
  rename_i cs
  simp only [VR] at hx
  obtain ⟨b, o, rfl, hF⟩ := hx
  split at h <;> first | cases h | skip
  · rename_i n ha hn
    obtain ⟨vs, h1, h2, h3⟩ := VRF_read (VRF_take n hF)
    have hl : vs.length = n := by rw [h1, List.length_take]; omega
    refine ⟨.agg vs.toArray, ?_, by simp only [VR]; exact ⟨_, rfl, h2⟩⟩
    have := run_loadCells_list (P := P) w ⟨b, o, none⟩ vs (fun j v hv => by rw [addr_add]; exact hR.fzw _ _ _ (h3 j v hv))
    rw [hl] at this
    simp [Instr.loadAt, Instr.sureAddr, loadVar, run_agg ha, run_sz hn, this]
  · rename_i ha
    obtain ⟨v, h1, h2⟩ := VRF_get hF (i := 0) hc
    have := hR.fzw _ _ _ h1
    exact ⟨v, by simp [Instr.loadAt, Instr.sureAddr, loadVar, run_agg ha]; simp at this; simp [this], h2⟩
def evU (E : Env) (a : AA) (x : Operand) : AV := unO (a.ev E x)
def evC (E : Env) (a : AA) (x : Operand) : Prop := unC (a.ev E x)
theorem unO_ok {x : AV} {cx : Value} (h : VR κ x cx) (hc : unC x) : VR κ (unO x) cx := by
  cases x <;> first | exact h | skip
  simp only [unC] at hc
  simp only [VR] at h
  exact h.1 hc
def evCs (E : Env) (a : AA) : List Operand → Prop
  | [] => True
  | x :: xs => evC E a x ∧ evCs E a xs
theorem evCs_mem {E : Env} {a : AA} : ∀ {xs : List Operand}, evCs E a xs → ∀ x ∈ xs, evC E a x
  | [], _, x, hx => by cases hx
  | y :: ys, h, x, hx => by
    cases hx with
    | head => exact h.1
    | tail _ hm => exact evCs_mem h.2 x hm
def pureOp (E : Env) (a : AA) (o : Op) : PV :=
  match o with
  | .move x | .assign x => some (True, a.ev E x)
  | .pick c x y => (aPick (evU E a c) (a.ev E x) (a.ev E y)).map fun p => (evC E a c ∧ p.1, p.2)
  | o => (pureOp1 E.P (evU E a) o).map fun p => (evCs E a o.operands.toList ∧ p.1, p.2)
end
end Go.Abs

/- THE ABSTRACT MEMORY (part 7b): structs built of parts. -/
namespace Go.Abs
open Go.RowKit
section
variable {κ : K} {P : Program} {w : World}
theorem aCells_ok {v : AV} {cv : Value} {cs : List AV} (h : aCells v = some cs) (hv : VR κ v cv) : VRs κ cs cv.cells.toList := by
  cases v <;> simp only [aCells, Option.some.injEq, reduceCtorEq] at h <;> subst h
  case agg cs => simp only [VR] at hv; obtain ⟨vs, rfl, hv⟩ := hv; exact hv
  all_goals
    have h2 := hv
    simp only [VR] at hv
    simp only [VRs]
    refine ⟨cv, [], ?_, h2, rfl⟩
    first
      | (rcases hv with ⟨_, rfl⟩ | ⟨_, _, rfl, _⟩ <;> rfl)
      | (subst hv; rfl)
      | (obtain ⟨_, _, rfl, _⟩ := hv; rfl)
      | (obtain ⟨_, _, _, rfl, _⟩ := hv; rfl)
      | (obtain ⟨_, rfl, _⟩ := hv; rfl)
      | (obtain ⟨_, _, _, rfl, _⟩ := hv; rfl)
def setArr (c : Array Value) : Nat → List Value → Array Value
  | _, [] => c
  | o, v :: r => setArr (c.setIfInBounds o v) (o + 1) r
theorem setArr_size : ∀ (vs : List Value) (c : Array Value) (o : Nat), (setArr c o vs).size = c.size
  | [], c, o => rfl
  | v :: r, c, o => by simp [setArr, setArr_size r]
theorem setArr_out : ∀ (vs : List Value) (c : Array Value) (o j : Nat), (j < o ∨ o + vs.length ≤ j) → (setArr c o vs)[j]? = c[j]?
  | [], c, o, j, _ => rfl
  | v :: r, c, o, j, h => by
    simp only [List.length_cons] at h
    simp only [setArr]
    rw [setArr_out r _ _ _ (by omega), Array.getElem?_setIfInBounds_ne (by omega)]
theorem setArr_in : ∀ (vs : List Value) (c : Array Value) (o j : Nat), o + vs.length ≤ c.size → j < vs.length → (setArr c o vs)[o + j]? = vs[j]?
  | v :: r, c, o, 0, h, _ => by
    simp only [List.length_cons] at h
    simp only [setArr]
    rw [setArr_out r _ _ _ (by omega)]
    simp only [Nat.add_zero, List.getElem?_cons_zero]
    rw [Array.getElem?_setIfInBounds_self_of_lt (by omega)]
  | v :: r, c, o, j + 1, h, hj => by
    simp only [List.length_cons] at h hj
    simp only [setArr]
    rw [show o + (j + 1) = o + 1 + j from by omega, setArr_in r _ _ _ (by simp; omega) (by omega)]
    simp
theorem zipIdx_setArr (off : Nat) : ∀ (l : List Value) (k : Nat) (cells : Array Value), (l.zipIdx k).foldl (fun cs (c, j) => cs.setIfInBounds (off + j) c) cells = setArr cells (off + k) l
  | [], k, cells => rfl
  | v :: r, k, cells => by
    simp only [List.zipIdx_cons, List.foldl_cons, setArr]
    rw [zipIdx_setArr off r (k + 1)]
    rfl
theorem VRs_at {κ : K} : ∀ {as : List AV} {vs : List Value} (_ : VRs κ as vs) (j : Nat) {v : Value} (_ : vs[j]? = some v), ∃ a, as[j]? = some a ∧ VR κ a v
  | [], _, h, j, v, hv => by simp only [VRs] at h; subst h; simp at hv
  | a :: as, _, h, j, v, hv => by
    simp only [VRs] at h
    obtain ⟨u, us, rfl, h1, h2⟩ := h
    cases j with
    | zero => simp only [List.getElem?_cons_zero, Option.some.injEq] at hv; subst hv; exact ⟨a, rfl, h1⟩
    | succ j => simpa using VRs_at h2 j (by simpa using hv)
theorem VRs_of_at {κ : K} : ∀ (as : List AV) (vs : List Value) (_ : vs.length = as.length) (_ : ∀ (j : Nat) (v : Value), vs[j]? = some v → ∃ a : AV, as[j]? = some a ∧ VR κ a v), VRs κ as vs
  | [], vs, hl, _ => by simp only [VRs]; exact List.eq_nil_of_length_eq_zero (by simpa using hl)
  | a :: as, [], hl, _ => by simp at hl
  | a :: as, v :: vs, hl, h => by
    simp only [VRs]
    refine ⟨v, vs, rfl, ?_, VRs_of_at as vs (by simpa using hl) fun j u hu => ?_⟩
    · obtain ⟨a', e, hv⟩ := h 0 v rfl
      simp only [List.getElem?_cons_zero, Option.some.injEq] at e; subst e; exact hv
    · simpa using h (j + 1) u (by simpa using hu)
theorem splice_get {l cs : List AV} {f : Nat} (h : f + cs.length ≤ l.length) (j : Nat) : (splice l f cs)[j]? = if j < f then l[j]? else if j < f + cs.length then cs[j - f]? else l[j]? := by
  unfold splice
  split
  · rw [List.append_assoc, List.getElem?_append_left (by simp; omega), List.getElem?_take, if_pos (by omega)]
  · split
    · rw [List.append_assoc, List.getElem?_append_right (by simp; omega), List.getElem?_append_left (by simp; omega)]
      congr 1; simp; omega
    · rw [List.getElem?_append_right (by simp; omega), List.getElem?_drop]
      congr 1; simp; omega
theorem setArr_splice {cs vs : List AV} {cells : Array Value} {us : List Value} {off : Nat} (h : VRs κ cs cells.toList) (hv : VRs κ vs us) (hb : off + vs.length ≤ cs.length) : VRs κ (splice cs off vs) (setArr cells off us).toList := by
  have l1 := VRs_len h
  have l2 := VRs_len hv
  simp only [Array.length_toList] at l1
  refine VRs_of_at _ _ ?_ fun j v hj => ?_
  · simp only [Array.length_toList, setArr_size, splice, List.length_append, List.length_take, List.length_drop]; omega
  · rw [Array.getElem?_toList] at hj
    rw [splice_get hb]
    split
    · rename_i q
      rw [setArr_out _ _ _ _ (.inl q)] at hj
      exact VRs_at h j (by rw [Array.getElem?_toList]; exact hj)
    · split
      · have := setArr_in us cells off (j - off) (by omega) (by omega)
        rw [show off + (j - off) = j from by omega] at this
        rw [this] at hj
        exact VRs_at hv (j - off) hj
      · rw [setArr_out _ _ _ _ (.inr (by omega))] at hj
        exact VRs_at h j (by rw [Array.getElem?_toList]; exact hj)
def PVs (κ : K) : List (Nat × AV) → List (Nat × Value) → Prop
  | [], cps => cps = []
  | (i, v) :: ps, cps => ∃ cv cps', cps = (i, cv) :: cps' ∧ VR κ v cv ∧ PVs κ ps cps'
theorem aFill_ok {t : TypeId} {fs : Array Field} (hu : P.underlying t = some (.struct fs)) : ∀ (ps : List (Nat × AV)) (cps : List (Nat × Value)) (cs : List AV) (cells : Array Value) (c : Prop) (out : List AV), PVs κ ps cps → VRs κ cs cells.toList → aFill P t ps cs = some (c, out) → c →
    ∃ cells', Instr.fill ((fs.map fun f => (f.offset, (tsz P f.type).getD 0))[·]?) cells cps = some cells' ∧ VRs κ out cells'.toList
  | [], cps, cs, cells, c, out, hp, hv, h, hc => by
    simp only [PVs] at hp; subst hp
    simp only [aFill, Option.some.injEq, Prod.mk.injEq] at h
    obtain ⟨_, rfl⟩ := h
    exact ⟨cells, rfl, hv⟩
  | (i, v) :: ps, cps, cs, cells, c, out, hp, hv, h, hc => by
    simp only [PVs] at hp
    obtain ⟨cv, cps', rfl, h1, h2⟩ := hp
    simp only [aFill] at h
    split at h <;> first | cases h | skip
    rename_i off n vs e1 e2
    simp only [Option.map_eq_some_iff, Prod.mk.injEq] at h
    obtain ⟨⟨c', out'⟩, h3, rfl, rfl⟩ := h
    obtain ⟨⟨q1, q2⟩, q3⟩ := hc
    have hcv := aCells_ok e2 h1
    have hl := VRs_len hcv
    have hl2 := VRs_len hv
    simp only [Array.length_toList] at hl hl2
    have hplace : (fs.map fun f => (f.offset, (tsz P f.type).getD 0))[i]? = some (off, n) := by
      unfold fldOf at e1
      rw [hu] at e1
      simp only [Option.bind_eq_some_iff, Option.map_eq_some_iff, Prod.mk.injEq] at e1
      obtain ⟨fd, g1, m, g2, rfl, rfl⟩ := e1
      rw [Array.getElem?_map, g1]
      simp [g2]
    have hz := zipIdx_setArr off cv.cells.toList 0 cells
    simp only [Nat.add_zero] at hz
    obtain ⟨cells', g1, g2⟩ := aFill_ok hu ps cps' _ (setArr cells off cv.cells.toList) c' out' h2 (setArr_splice hv hcv q2) h3 q3
    refine ⟨cells', ?_, g2⟩
    simp only [Instr.fill, hplace]
    rw [if_neg (by simp; omega), ← g1]
    congr 1
    rw [← hz, ← Array.foldl_toList, Array.toList_zipIdx]
theorem run_places : ∀ (fs : List Field) (_ : fs.all (fun f => (tsz P f.type).isSome) = true) (w : World), (fs.mapM fun f => (do pure (f.offset, ← sizeOf f.type) : Sem (Nat × Nat))).run P w = .ok (fs.map fun f => (f.offset, (tsz P f.type).getD 0)) w
  | [], _, w => by simp
  | f :: fs, h, w => by
    simp only [List.all_cons, Bool.and_eq_true] at h
    obtain ⟨n, hn⟩ := Option.isSome_iff_exists.1 h.1
    simp only [List.mapM_cons, Sem.run_bind, Sem.run_pure, Result.andThen, run_sz hn, run_places fs h.2 w, List.map_cons, hn, Option.getD_some]
theorem aBuild_ok {t : TypeId} {ps : List (Nat × AV)} {cps : Array (Nat × Value)} {c : Prop} {v : AV} (h : aBuild P t ps = some (c, v)) (hc : c) (hp : PVs κ ps cps.toList) : Yields κ P (Instr.build t cps) w v := by
  unfold aBuild at h
  split at h <;> first | cases h | skip
  rename_i z hz
  simp only [Option.map_eq_some_iff, Prod.mk.injEq] at h
  obtain ⟨⟨c', out⟩, h3, rfl, rfl⟩ := h
  obtain ⟨hs, hc⟩ := hc
  unfold szsOf at hs
  split at hs <;> first | cases hs | skip
  rename_i fs hu
  simp only [zeroC, Option.map_eq_some_iff, Option.bind_eq_some_iff] at hz
  obtain ⟨zv, ⟨i, hi, hzv⟩, rfl⟩ := hz
  obtain ⟨cells', g1, g2⟩ := aFill_ok (κ := κ) hu ps cps.toList _ zv.cells c' out hp (absSs_ok κ _) h3 hc
  refine ⟨.agg cells', ?_, by simp only [VR]; exact ⟨cells', rfl, g2⟩⟩
  have hz : (zeroValue t).run P w = .ok zv w := by simp [zeroValue, typeInfo, hi, hzv]
  have hpl : (fs.mapM fun f => (do pure (f.offset, ← sizeOf f.type) : Sem (Nat × Nat))).run P w = .ok (fs.map fun f => (f.offset, (tsz P f.type).getD 0)) w := by
    rw [Array.mapM_eq_mapM_toList, Sem.run_map, run_places fs.toList hs w]
    simp only [Result.andThen]
    rw [← Array.toList_map, Array.toArray_toList]
  simp only [Instr.build, Sem.run_bind, hz, Result.andThen, run_underlying hu, hpl, g1, Sem.run_pure]
end
end Go.Abs

/- THE ABSTRACT MEMORY (part 8): the rule of an operation that only reckons; how a region is gone through. -/
namespace Go.Abs
open Go.RowKit
section
variable {E : Env} {κ : K} {st : St} {w : World} {a : AA} {act : Act}
theorem evsC_ok (hR : Rel E κ st w) (hA : AR κ a act) : ∀ (xs : List Operand), evCs E a xs → VRs κ (xs.map (evU E a)) (xs.map act.eval)
  | [], _ => by simp [VRs]
  | x :: xs, h => by simp only [List.map_cons, VRs]; exact ⟨_, _, rfl, unO_ok (hA.ev hR x) h.1, evsC_ok hR hA xs h.2⟩
theorem aPick_ok {P : Program} {ρ : Operand → Value} {o : Oper} {oc ox oy : Operand} {x y z : AV} {c : Prop} {v : AV} (ho : o.op = .pick oc ox oy) (h : aPick x y z = some (c, v)) (hc : c)
    (hx : VR κ x (ρ oc)) (hy : VR κ y (ρ ox)) (hz : VR κ z (ρ oy)) : ∃ cv, (execOp ρ o).run P w = .ok (.value cv) w ∧ VR κ v cv := by
  unfold aPick at h
  split at h <;> first | cases h | skip
  all_goals
    simp only [VR] at hx hy hz
    simp only [execOp, ho, hx, asBool]
  · rename_i b y
    cases b
    · exact ⟨_, by simp; rfl, by simp [VR, hz]⟩
    · exact ⟨_, by simp; rfl, by simp [VR, hy]⟩
  · rename_i b y hn
    cases b
    · exact ⟨_, by simp; rfl, by simp [VR, hz]⟩
    · exact ⟨_, by simp; rfl, by simp [VR, hy]⟩
  · rename_i b g y
    cases b
    · exact ⟨_, by simp; rfl, by simp [VR, hz.1 (hc rfl)]⟩
    · exact ⟨_, by simp; rfl, by simp [VR, hy]⟩
  · rename_i b g y
    cases b
    · exact ⟨_, by simp; rfl, by simp [VR, hz]⟩
    · exact ⟨_, by simp; rfl, by simp [VR, hy.1 (hc rfl)]⟩
theorem pureOp_ok {o : Oper} {c : Prop} {v : AV} (h : pureOp E a o.op = some (c, v)) (hc : c) : PureV E o a v := by
  intro κ st w act hR hA
  have hev := fun x => hA.ev hR x
  have hb : ∀ s : Sem Value, Yields κ E.P s w v → ∃ cv, (do pure (.value (← s)) : Sem Next).run E.P w = .ok (.value cv) w ∧ VR κ v cv := by
    rintro s ⟨cv, hr, hv⟩; exact ⟨cv, by simp [hr], hv⟩
  cases hop : o.op <;> rw [hop] at h
  case defer cl => simp [pureOp, pureOp1] at h
  all_goals refine ⟨fun c => by simp, ?_⟩
  case move x => simp only [pureOp, Option.some.injEq, Prod.mk.injEq] at h; obtain ⟨_, rfl⟩ := h; exact ⟨_, by simp [execOp, hop], hev x⟩
  case assign x => simp only [pureOp, Option.some.injEq, Prod.mk.injEq] at h; obtain ⟨_, rfl⟩ := h; exact ⟨_, by simp [execOp, hop], hev x⟩
  case pick x y z =>
    simp only [pureOp, Option.map_eq_some_iff, Prod.mk.injEq] at h
    obtain ⟨⟨c', v'⟩, hp, rfl, rfl⟩ := h
    exact aPick_ok hop hp hc.2 (unO_ok (hev x) hc.1) (hev y) (hev z)
  all_goals simp only [pureOp, pureOp1, Option.map_eq_some_iff, Prod.mk.injEq, reduceCtorEq, false_and, exists_const, and_false, Option.map_none] at h
  all_goals (first | (exact h.elim) | skip)
  all_goals
    obtain ⟨⟨c', v'⟩, hp, rfl, rfl⟩ := h
    dsimp only at hb hc ⊢
    obtain ⟨hcs, hc⟩ := hc
    have hu : ∀ x, x ∈ o.op.operands.toList → VR κ (evU E a x) (act.eval x) := fun x hx => unO_ok (hev x) (evCs_mem hcs x (by rw [hop] at hx; exact hx))
    rw [hop] at hu
  case binOp op t x y yt =>
    simp only [execOp, hop]
    refine hb _ ?_
    have hx := hu x (by simp [Op.operands])
    have hy := hu y (by simp [Op.operands])
    unfold aBinOp at hp
    split at hp
    · rename_i r hr
      cases hp
      exact aBin_ok hr hc hx hy t x y
    · cases op <;> simp only [Option.map_eq_some_iff, Prod.mk.injEq, reduceCtorEq] at hp
      all_goals
        obtain ⟨b, hq, _, rfl⟩ := hp
        obtain ⟨h1, h2, h3⟩ := equalIn_ok (P := E.P) (w := w) hq hx hy
      · exact ⟨.bool b, by rw [Sem.run_bind, eqGuard_int .eql t x y _ _ h2, h3 .eql (.inl rfl)]; simp [h1], by simp [VR]⟩
      · exact ⟨.bool (!b), by rw [Sem.run_bind, eqGuard_int .neq t x y _ _ h2, h3 .neq (.inr rfl)]; simp [h1], by simp [VR]⟩
  case unOp op t x => simp only [execOp, hop]; exact hb _ (aUn_ok hp hc (hu x (by simp [Op.operands])))
  case convert s d x => simp only [execOp, hop]; exact hb _ (aConv_ok hp hc (hu x (by simp [Op.operands])))
  case makeInterface t x => simp only [execOp, hop]; exact hb _ (aMkI_ok hp hc (hu x (by simp [Op.operands])))
  case field t x f => simp only [execOp, hop]; exact hb _ (aField_ok hp hc (hu x (by simp [Op.operands])))
  case extract x i => simp only [execOp, hop]; exact hb _ (aExtract_ok hp hc (hu x (by simp [Op.operands])))
  case index t x i => simp only [execOp, hop]; exact hb _ (aIndex_ok hp hc (hu x (by simp [Op.operands])) (hu i (by simp [Op.operands])))
  case indexAddr t x i => simp only [execOp, hop]; exact hb _ (aIndexAddr_ok hp hc (hu x (by simp [Op.operands])) (hu i (by simp [Op.operands])))
  case fieldAddr t x f => simp only [execOp, hop]; exact hb _ (aFieldAddr_ok hp hc (hu x (by simp [Op.operands])))
  case load t x => simp only [execOp, hop]; exact hb _ (aLoadF_ok hR hp hc (hu x (by simp [Op.operands])))
  case nilCheck x => exact aNil_ok hop hp hc (hu x (by simp [Op.operands]))
  case makeFunc fn fi ca =>
    simp only [Option.some.injEq, Prod.mk.injEq] at hp
    obtain ⟨_, rfl⟩ := hp
    simp only [execOp, hop]
    refine hb _ ⟨.func fn (fi.map act.eval) (ca.map act.eval), by simp [Instr.makeFunc], ?_⟩
    simp only [VR]
    simp only [Op.operands, Array.toList_append] at hcs
    have happ : ∀ (xs ys : List Operand), evCs E a (xs ++ ys) → evCs E a xs ∧ evCs E a ys := by
      intro xs ys
      induction xs with
      | nil => intro h; exact ⟨trivial, h⟩
      | cons z zs ih => intro h; exact ⟨⟨h.1, (ih h.2).1⟩, (ih h.2).2⟩
    obtain ⟨g1, g2⟩ := happ _ _ hcs
    exact ⟨_, _, rfl, by simpa using evsC_ok hR hA fi.toList g1, by simpa using evsC_ok hR hA ca.toList g2⟩
  case slice t x lo hi mx =>
    cases mx with
    | some m => simp at hp
    | none =>
      simp only at hp
      simp only [execOp, hop]
      refine hb _ ?_
      refine aSlice_ok hp hc (hu x (by simp [Op.operands])) ?_ ?_
      · cases lo with
        | none => exact .inl ⟨rfl, rfl⟩
        | some l => exact .inr ⟨_, _, rfl, rfl, hu l (by simp [Op.operands])⟩
      · cases hi with
        | none => exact .inl ⟨rfl, rfl⟩
        | some l => exact .inr ⟨_, _, rfl, rfl, hu l (by simp [Op.operands])⟩
  case build t parts =>
    simp only [execOp, hop]
    refine hb _ (aBuild_ok hp hc ?_)
    have hu2 : ∀ l : List (Nat × Operand), (∀ q ∈ l, VR κ (evU E a q.2) (act.eval q.2)) → PVs κ (l.map fun p => (p.1, evU E a p.2)) (l.map fun (i, x) => (i, act.eval x)) := by
      intro l
      induction l with
      | nil => intro _; simp [PVs]
      | cons q l ih =>
        intro h
        simp only [List.map_cons, PVs]
        exact ⟨_, _, rfl, h q (by simp), ih fun q' hq' => h q' (by simp [hq'])⟩
    have := hu2 parts.toList fun q hq => hu q.2 (by simp only [Op.operands, List.toList_toArray, List.mem_map]; exact ⟨q, hq, rfl⟩)
    simpa using this
  case call cl =>
    obtain ⟨callee, args, tys⟩ := cl
    simp only [aBuiltin] at hp
    split at hp <;> first | cases hp | skip
    · rename_i x t h2 h3
      obtain rfl : args = #[x] := by cases args; simp at h2; simp [h2]
      obtain rfl : tys = #[t] := by cases tys; simp at h3; simp [h3]
      obtain ⟨cv, hr, hv⟩ := aLen_ok (w := w) (ty := o.type) hp hc (hu x (by simp [Op.operands, Call.operands]))
      exact ⟨cv, by simp [execOp, hop, resolve, invoke, builtin, hr], hv⟩
    · rename_i x y h2
      obtain rfl : args = #[x, y] := by cases args; simp at h2; simp [h2]
      have hx := hu x (by simp [Op.operands, Call.operands])
      have hy := hu y (by simp [Op.operands, Call.operands])
      unfold aMin at hp
      split at hp <;> first | cases hp | skip
      rename_i e1 e2
      rw [e1] at hx; rw [e2] at hy
      simp only [VR] at hx hy
      exact ⟨_, by simp [execOp, hop, resolve, invoke, builtin, Builtin.min_, hx, hy, Builtin.min2]; rfl, by simp [VR]⟩
    · rename_i x y h2
      obtain rfl : args = #[x, y] := by cases args; simp at h2; simp [h2]
      have hx := hu x (by simp [Op.operands, Call.operands])
      have hy := hu y (by simp [Op.operands, Call.operands])
      unfold aMax at hp
      split at hp <;> first | cases hp | skip
      rename_i e1 e2
      rw [e1] at hx; rw [e2] at hy
      simp only [VR] at hx hy
      exact ⟨_, by simp [execOp, hop, resolve, invoke, builtin, Builtin.max_, hx, hy, Builtin.max2]; rfl, by simp [VR]⟩
end
end Go.Abs

/- THE ABSTRACT MEMORY (part 9): reading what the walk owns; calls; how a function is entered and left. -/
namespace Go.Abs
open Go.RowKit
def aLoad (P : Program) (st : St) (t : TypeId) (x : AV) : PV :=
  match x with
  | .ptr id g i f =>
    match st id with
    | some (.cells _ g' sz es) =>
      match aggT P t, tsz P t with
      | some true, some n => some (g = g' ∧ i < es.length ∧ f + n ≤ sz, .agg (((es.getD i []).drop f).take n))
      | some false, _ => some (g = g' ∧ i < es.length ∧ f < sz, (es.getD i []).getD f .junk)
      | _, _ => none
    | _ => none
  | _ => none
section
variable {E : Env} {κ : K} {st : St} {w : World} {a : AA} {act : Act}
theorem cell_of_cells {w : World} {b : Nat} {c : Array Value} {t : TypeId} {fr : Nat × Nat} (h : w.heap[b]? = some (.cells c t fr)) (o : Nat) : w.cell? ⟨b, o, none⟩ = c[o]? := by
  simp [World.cell?, h]
theorem aLoad_ok (hR : Rel E κ st w) {t : TypeId} {x : AV} {cx : Value} {c : Prop} {v : AV} (h : aLoad E.P st t x = some (c, v)) (hc : c) (hx : VR κ x cx) : Yields κ E.P (Instr.loadAt t cx) w v := by
  unfold aLoad at h
  split at h <;> first | cases h | skip
  rename_i id g i f
  split at h <;> first | cases h | skip
  rename_i t' g' sz es hst
  obtain ⟨L, hL, hB, _, _⟩ := hR.dom id _ hst
  obtain ⟨e1, e2, hl, hm, cc, fr, hh, hsz, hfr, hE⟩ := hB
  simp only [VR] at hx
  obtain ⟨ad, L', rfl, hL', hg, ha⟩ := hx
  rw [hL] at hL'; cases hL'
  split at h <;> first | cases h | skip
  · rename_i n hag hn
    obtain ⟨rfl, hi, hf⟩ := hc
    have ha' := ha e1
    obtain ⟨q1, q2⟩ := VRE_get hE hi
    have q3 := VRF_take n (VRF_drop f q2 (by omega))
    obtain ⟨vs, h1, h2, h3⟩ := VRF_read q3
    have hlen : vs.length = n := by rw [h1, List.length_take, List.length_drop]; omega
    refine ⟨.agg vs.toArray, ?_, by simp only [VR]; exact ⟨_, rfl, h2⟩⟩
    have := run_loadCells_list (P := E.P) w ad vs (fun j v hv => by
      rw [ha', addr_add, cell_of_cells hh, ← h3 j v hv, e2]; congr 1; omega)
    rw [hlen] at this
    simp [Instr.loadAt, Instr.sureAddr, loadVar, run_agg hag, run_sz hn, this]
  · rename_i hag
    obtain ⟨rfl, hi, hf⟩ := hc
    have ha' := ha e1
    obtain ⟨q1, q2⟩ := VRE_get hE hi
    obtain ⟨v, h1, h2⟩ := VRF_get q2 (i := f) (by omega)
    have : w.cell? ad = some v := by rw [ha', cell_of_cells hh, ← h1, e2]; congr 1; omega
    exact ⟨v, by simp [Instr.loadAt, Instr.sureAddr, loadVar, run_agg hag, this], h2⟩
def hasBody (P : Program) (f : FuncId) : Bool :=
  match P.funcs[f]? with
  | some fn => fn.body.isSome && !(fn.name == "runtime.NumGoroutine")
  | none => false
theorem run_callFunc {P : Program} {f : FuncId} (h : hasBody P f = true) (args : Array Value) (w : World) : (callFunc f args).run P w = .ok (.enter f args) w := by
  unfold hasBody at h
  split at h
  · rename_i fn hf
    simp only [Bool.and_eq_true, Bool.not_eq_true'] at h
    obtain ⟨hb, hn⟩ := h
    cases hbody : fn.body with
    | none => simp [hbody] at hb
    | some c => simp [callFunc, hf, by simpa using hn, hbody]
  · cases h
theorem AOp.call {r : Option Nat} {o : Oper} {Kn : ANext} {Q : APost} {x : Operand} {f : FuncId} {fi ca : List AV} {args : Array Operand} {tys : Array TypeId}
    (ho : o.op = .call { callee := .value x, args := args, argTypes := tys }) (hx : evU E a x = .clo (.func f) fi ca) (hcs : evCs E a (x :: args.toList)) (hb : hasBody E.P f = true)
    (h : ACalls E f (fi ++ args.toList.map (evU E a) ++ ca) st fun e st' => match e with | .ret v => Kn (a.put o.dst v) st' | .panic v => Q (.panic v) a st') : AOp E r o Kn Q a st := by
  intro κ w act rd hR hA hr
  refine ⟨fun _ _ => trivial, ?_⟩
  have hd : ∀ c, o.op ≠ .defer c := fun c => by rw [ho]; simp
  rw [semAt_of hd]
  have hv := unO_ok (hA.ev hR x) hcs.1
  rw [show unO (a.ev E x) = evU E a x from rfl, hx] at hv
  simp only [VR] at hv
  obtain ⟨cfi, cca, hxe, hfi, hca⟩ := hv
  have hargs := evsC_ok hR hA args.toList hcs.2
  have hrun : (execOp act.eval o).run E.P w = .ok (.enter f (cfi ++ args.map act.eval ++ cca)) w := by
    simp [execOp, ho, resolve, hxe, Deferred.ofValue, invoke, run_callFunc hb]
  rw [hrun]
  refine ⟨fun h => by simp [Fence.wide] at h, ?_⟩
  refine CallsIn.mono (h κ w _ hR (by simpa using VRs_append (VRs_append hfi hargs) hca)) ?_
  rintro e w' ⟨κ', x', st', hle, hR', he, hq⟩
  cases x' with
  | ret v =>
    obtain ⟨cv, rfl, hcv⟩ := he
    exact ⟨κ', _, st', hle, hR', (hA.mono hle).put o.dst hcv, hq⟩
  | panic v =>
    obtain ⟨cv, rfl, hcv⟩ := he
    exact ⟨κ', .panic v, a, st', hle, hR', hA.mono hle, ⟨cv, rfl, hcv⟩, hq⟩
/-! ### Results, and how a function is left -/
def aRes1 (P : Program) (a : AA) (st : St) : ResultVar → PV
  | .tmp t => some (True, a.get t)
  | .cell x t => aLoad P st t (a.get x)
def aRess (P : Program) (a : AA) (st : St) : List ResultVar → Option (Prop × List AV)
  | [] => some (True, [])
  | r :: rs =>
    match aRes1 P a st r, aRess P a st rs with
    | some (c, v), some (d, vs) => some (c ∧ d, v :: vs)
    | _, _ => none
def aTup : List AV → AV
  | [v] => v
  | vs => .tup vs
def rd1 (tmps : Array Value) (r : ResultVar) : Sem Value :=
  match r with
  | .tmp t => pure (tmps.getD t undef)
  | .cell x t => do loadVar t (← asAddr (tmps.getD x undef))
theorem results_eq (fn : Func) (tmps : Array Value) : results fn tmps = (do let vs ← fn.results.mapM (rd1 tmps); pure (if h : vs.size = 1 then vs[0] else .tuple vs) : Sem Value) := rfl
theorem aRess_ok (hR : Rel E κ st w) (hA : AR κ a act) : ∀ (rs : List ResultVar) {c : Prop} {vs : List AV}, aRess E.P a st rs = some (c, vs) → c →
    ∃ cvs : List Value, (rs.mapM (rd1 act.tmps)).run E.P w = .ok cvs w ∧ VRs κ vs cvs
  | [], c, vs, h, hc => by simp only [aRess, Option.some.injEq, Prod.mk.injEq] at h; obtain ⟨_, rfl⟩ := h; exact ⟨[], by simp, by simp [VRs]⟩
  | r :: rs, c, vs, h, hc => by
    simp only [aRess] at h
    split at h <;> first | cases h | skip
    rename_i c1 v1 d1 vs1 h1 h2
    obtain ⟨hc1, hc2⟩ := hc
    obtain ⟨cvs, hr, hv⟩ := aRess_ok hR hA rs h2 hc2
    cases r with
    | tmp t =>
      simp only [aRes1, Option.some.injEq, Prod.mk.injEq] at h1
      obtain ⟨_, rfl⟩ := h1
      exact ⟨act.tmps.getD t undef :: cvs, by simp only [List.mapM_cons, Sem.run_bind, Sem.run_pure, Result.andThen, rd1, hr], by simp only [VRs]; exact ⟨_, _, rfl, hA.ev hR (.tmp t), hv⟩⟩
    | cell x t =>
      simp only [aRes1] at h1
      have hx := hA.ev hR (.tmp x)
      obtain ⟨cv, hl, hcv⟩ := aLoad_ok hR h1 hc1 hx
      have hp : ∃ ad, act.tmps.getD x undef = .pointer (some ad) := by
        have hx2 : VR κ (a.get x) (act.tmps.getD x undef) := hx
        unfold aLoad at h1
        split at h1 <;> first | cases h1 | skip
        rename_i heq
        rw [heq] at hx2
        simp only [VR] at hx2
        obtain ⟨ad, L, e, _⟩ := hx2
        exact ⟨ad, e⟩
      obtain ⟨ad, hp⟩ := hp
      have hl2 : (loadVar t ad).run E.P w = .ok cv w := by
        have : act.eval (.tmp x) = .pointer (some ad) := hp
        rw [this] at hl
        simpa [Instr.loadAt, Instr.sureAddr] using hl
      exact ⟨cv :: cvs, by simp only [List.mapM_cons, Sem.run_bind, Sem.run_pure, Result.andThen, rd1, hp, asAddr, hl2, hr], by simp only [VRs]; exact ⟨_, _, rfl, hcv, hv⟩⟩
theorem results_ok (hR : Rel E κ st w) (hA : AR κ a act) {fn : Func} {c : Prop} {vs : List AV} (h : aRess E.P a st fn.results.toList = some (c, vs)) (hc : c) :
    ∃ cv, (results fn act.tmps).run E.P w = .ok cv w ∧ VR κ (aTup vs) cv := by
  obtain ⟨cvs, hr, hv⟩ := aRess_ok hR hA _ h hc
  have hlen := VRs_len hv
  rw [results_eq]
  simp only [Array.mapM_eq_mapM_toList, Sem.run_bind, Sem.run_map, hr, Result.andThen]
  by_cases h1 : cvs.length = 1
  · obtain ⟨u, rfl⟩ := List.length_eq_one_iff.1 h1
    obtain ⟨v, rfl⟩ := List.length_eq_one_iff.1 (hlen.symm.trans h1)
    simp only [VRs] at hv
    obtain ⟨_, _, e, hv, _⟩ := hv
    cases e
    exact ⟨u, by simp, by simpa [aTup] using hv⟩
  · refine ⟨.tuple cvs.toArray, by simp [h1], ?_⟩
    have : aTup vs = .tup vs := by
      match vs, hlen with
      | [], _ => rfl
      | [v], hl => simp at hl; omega
      | _ :: _ :: _, _ => rfl
    rw [this]
    simp only [VR]
    exact ⟨_, rfl, by simpa using hv⟩
end
end Go.Abs

/- THE ABSTRACT MEMORY (part 10): how a function is entered and left; new blocks, stores. -/
namespace Go.Abs
open Go.RowKit
def ALeave : List ADef → St → (St → Prop) → Prop
  | [], st, Kn => Kn st
  | .collected id :: ds, st, Kn => st id = some (.dfr true) ∧ ALeave ds (st.set id (.dfr false)) Kn
  | _ :: _, _, _ => False
def ABody (E : Env) (fn : Func) (R : AEnd → St → Prop) : APost
  | .normal, a, st | .ret, a, st => ALeave a.ds st fun st' => ∃ c vs, aRess E.P a st' fn.results.toList = some (c, vs) ∧ c ∧ R (.ret (aTup vs)) st'
  | .panic v, a, st => ALeave a.ds st fun st' => R (.panic v) st'
  | _, _, _ => False
section
variable {E : Env} {κ : K} {st : St} {w : World} {a : AA} {act : Act}
theorem aleave_ok {fn : Func} {tmps : Array Value} {R : Ending → World → Prop} {u : FrameMode} (hu : u ≠ .run) : ∀ (ads : List ADef) {ds : List Deferred} {κ : K} {st : St} {w : World} {Kn : St → Prop}, DRs κ ads ds → Rel E κ st w → ALeave ads st Kn →
    (∀ κ' st' w', K.Le κ κ' → Rel E κ' st' w' → Kn st' → LeavesIn (Fr none) 0 E.P fn tmps R [] u w') → LeavesInM (Fr none) 0 E.P fn tmps R ds u w
  | [], ds, κ, st, w, Kn, hd, hR, hl, hk => by simp only [DRs] at hd; subst hd; exact hk κ st w (K.Le.refl κ) hR hl
  | .call _ _ :: _, ds, κ, st, w, Kn, hd, hR, hl, hk => by simp [ALeave] at hl
  | .collected id :: ads, ds, κ, st, w, Kn, hd, hR, hl, hk => by
    obtain ⟨d, ds', rfl, hd1, hd2⟩ := hd
    obtain ⟨hst, hl⟩ := hl
    obtain ⟨L, b, hL, rfl, hb⟩ := hd1
    obtain ⟨L', hL', hB, ho, hlt⟩ := hR.dom id _ hst
    rw [hL] at hL'; cases hL'
    obtain ⟨hg, hh⟩ := hB
    simp only [if_true] at hh
    have hbe := hb hg
    subst hbe
    refine ⟨hu, .inl ⟨L.b, { w with heap := w.heap.setIfInBounds L.b (.deferred none) }, rfl, ?_, ?_⟩⟩
    · simp [Instr.takeDeferred, getObj, setObj, Sem.run, hh]
    · have hgr : w.grownBy { w with heap := w.heap.setIfInBounds L.b (.deferred none) } (some L.b) :=
        ⟨rfl, rfl, rfl, by simp, fun k hk hne => by
          simp only [ne_eq, Option.some.injEq] at hne
          simp [Array.getElem?_setIfInBounds, Ne.symm hne]⟩
      have hle : ∀ L0, κ.loc id = some L0 → L0.gen ≤ L.gen ∧ (L.gen = L0.gen → L = L0) ∧ L.sz = L0.sz := fun L0 h0 => by rw [hL] at h0; cases h0; exact ⟨Nat.le_refl _, fun _ => rfl, rfl⟩
      have hR' : Rel E (κ.set id L) (st.set id (.dfr false)) { w with heap := w.heap.setIfInBounds L.b (.deferred none) } :=
        hR.put hle hgr ⟨hg, by simp [Array.getElem?_setIfInBounds, hlt]⟩ (by simpa using hlt) (.inl ⟨L, by simp [hst], hL, rfl⟩)
      have hK : K.Le κ (κ.set id L) := K.le_set hle
      exact aleave_ok hu ads (hd2.mono hK) hR' hl fun κ' st' w' h1 h2 h3 => hk κ' st' w' (hK.trans h1) h2 h3
theorem VRs_undef (κ : K) : ∀ n : Nat, VRs κ (List.replicate n (.tup [])) (List.replicate n undef)
  | 0 => by simp [VRs]
  | n + 1 => by
    simp only [List.replicate_succ, VRs]
    refine ⟨_, _, rfl, ?_, VRs_undef κ n⟩
    simp only [VR, undef]
    exact ⟨#[], rfl, by simp [VRs]⟩
theorem TR.args {args : List AV} {cargs : Array Value} (h : VRs κ args cargs.toList) (n : Nat) : TR κ (args ++ List.replicate (n - args.length) (.tup [])) (cargs ++ Array.replicate (n - cargs.size) undef) := by
  have hl := VRs_len h
  simp only [Array.length_toList] at hl
  have := VRs_append h (VRs_undef κ (n - args.length))
  simpa [TR, hl] using this
theorem ACalls.of_body {f : FuncId} {fn : Func} {c : Code} {args : List AV} {R : AEnd → St → Prop} (hf : E.P.funcs[f]? = some fn) (hb : fn.body = some c)
    (h : AW E none c (ABody E fn R) { tm := args ++ List.replicate (fn.ntmps - args.length) (.tup []), ds := [] } st) : ACalls E f args st R := by
  intro κ w cargs hR hargs
  have hl := VRs_len hargs
  simp only [Array.length_toList] at hl
  refine callsIn_of_wp_marks (F := Fr none) hf hb trivial ?_ rfl
  refine wpIn_mono (h κ w _ none hR ⟨TR.args hargs fn.ntmps, by simp [DRs]⟩ rfl) ?_
  rintro e act' w' ⟨κ', x, a', st', hle, hR', hA', hx, hq⟩
  have ret : ∀ (a' : AA) (st' : St), AR κ' a' act' → Rel E κ' st' w' → ALeave a'.ds st' (fun st' => ∃ c vs, aRess E.P a' st' fn.results.toList = some (c, vs) ∧ c ∧ R (.ret (aTup vs)) st') →
      LeavesInM (Fr none) 0 E.P fn act'.tmps (upE E κ R) act'.defers .returning w' := by
    intro a' st' hA' hR' hq
    refine aleave_ok (by simp) a'.ds hA'.d hR' hq ?_
    rintro κ'' st'' w'' hle' hR'' ⟨c, vs, h1, h2, h3⟩
    obtain ⟨cv, hr, hv⟩ := results_ok hR'' (hA'.mono hle') h1 h2
    exact ⟨cv, hr, κ'', .ret (aTup vs), st'', hle.trans hle', hR'', ⟨cv, rfl, hv⟩, h3⟩
  cases x with
  | normal => simp only [XR] at hx; subst hx; exact ret a' st' hA' hR' hq
  | ret => simp only [XR] at hx; subst hx; exact ret a' st' hA' hR' hq
  | panic v =>
    simp only [XR] at hx
    obtain ⟨cv, rfl, hv⟩ := hx
    refine aleave_ok (by simp) a'.ds hA'.d hR' hq ?_
    intro κ'' st'' w'' hle' hR'' h3
    exact ⟨κ'', .panic v, st'', hle.trans hle', hR'', ⟨cv, rfl, VR.mono hle' _ _ hv⟩, h3⟩
  | exit id => exact hq.elim
  | goto l => exact hq.elim
theorem stepR_scope {P : Program} {b : Frame} {a : Act} {k : List Item} {cs : List Frame} {w : World} {c : Code} : step P (lone (b.atR a (.code (.scope c) :: k)) cs w) = .next (lone (b.atR a (.code c :: .inScope c :: k)) cs w) :=
  step_lone_go (by simp [stepG, stepG.exec, Frame.atR])
theorem stepR_inScope {P : Program} {b : Frame} {a : Act} {k : List Item} {cs : List Frame} {w : World} {c : Code} : step P (lone (b.atR a (.inScope c :: k)) cs w) = .next (lone (b.atR a k) cs w) :=
  step_lone_go (by simp [stepG, stepG.exec, Frame.atR])
def ANoGoto (Q : APost) : APost
  | .goto _, _, _ => False
  | x, a, st => Q x a st
theorem AW.scope {r : Option Nat} {Q : APost} {c : Code} (h : AW E r c (ANoGoto Q) a st) : AW E r (.scope c) Q a st := by
  intro κ w act rd h1 h2 h3 b k cs hro hb hr
  have h0 : (lone (b.atR act (.code (.scope c) :: k)) cs w).fenced E.P (Fr rd) := fenced_calm hb hr rfl
  obtain ⟨e, a₁, w₁, ⟨κ', x, a', st', hle, hR', hA', hx, hq⟩, harr⟩ := h κ w act rd h1 h2 h3 b (.inScope c :: k) cs hro hb hr
  have hX : ∀ id, exitTo id (.inScope c :: k) = exitTo id k := fun id => by simp [exitTo]
  cases x with
  | normal =>
    simp only [XR] at hx; subst hx
    exact ⟨.normal, a₁, w₁, ⟨κ', .normal, a', st', hle, hR', hA', rfl, hq⟩, .head h0 stepR_scope (StepsIn.trans harr (.one (fenced_calm hb hr rfl) stepR_inScope))⟩
  | exit id =>
    simp only [XR] at hx; subst hx
    exact ⟨.exit id, a₁, w₁, ⟨κ', .exit id, a', st', hle, hR', hA', rfl, hq⟩, fun k' hk => .head h0 stepR_scope (harr.1 k' (by rw [hX]; exact hk)),
      fun hr' hk => let ⟨k₁, h1, h2⟩ := harr.2 hr' (by rw [hX]; exact hk); ⟨k₁, h1, .head h0 stepR_scope h2⟩⟩
  | goto l => exact hq.elim
  | ret => simp only [XR] at hx; subst hx; exact ⟨_, a₁, w₁, ⟨κ', .ret, a', st', hle, hR', hA', rfl, hq⟩, .of_steps (.one h0 stepR_scope) harr⟩
  | panic v => simp only [XR] at hx; obtain ⟨cv, rfl, hv⟩ := hx; exact ⟨_, a₁, w₁, ⟨κ', .panic v, a', st', hle, hR', hA', ⟨cv, rfl, hv⟩, hq⟩, .of_steps (.one h0 stepR_scope) harr⟩
end
end Go.Abs

/- THE ABSTRACT MEMORY (part 11): a region, reckoned. -/
namespace Go.Abs
open Go.RowKit
def optV (g : Bool) : AV → AV
  | .opt _ v => .opt g v
  | v => .opt g v
def optC (g : Bool) : AV → Prop
  | .opt g' _ => g = true → g' = true
  | _ => True
theorem optV_ok {κ : K} {g : Bool} {v : AV} {cv : Value} (hc : optC g v) (h : VR κ (.opt g v) cv) : VR κ (optV g v) cv := by
  cases v <;> first | exact h | skip
  case opt g' v =>
    simp only [VR] at h
    simp only [optV, VR]
    exact ⟨fun e => (h.1 e).1 (hc e), h.2⟩
theorem VRs_set_to {κ : K} {v v' : AV} (hv : ∀ cv, VR κ v cv → VR κ v' cv) : ∀ {l : List AV} {d : Nat} {vs : List Value}, VRs κ (l.set d v) vs → VRs κ (l.set d v') vs
  | [], d, vs, h => by simpa using h
  | x :: l, 0, vs, h => by
    simp only [List.set_cons_zero, VRs] at h ⊢
    obtain ⟨u, us, rfl, h1, h2⟩ := h
    exact ⟨u, us, rfl, hv _ h1, h2⟩
  | x :: l, d + 1, vs, h => by
    simp only [List.set_cons_succ, VRs] at h ⊢
    obtain ⟨u, us, rfl, h1, h2⟩ := h
    exact ⟨u, us, rfl, h1, VRs_set_to hv h2⟩
theorem AOps.opt {E : Env} {r : Option Nat} {ops : Array Oper} {Q : APost} {l : List Nat} {a : AA} {d : Option Nat} {g : Bool} {v : AV} {st : St} (hc : optC g v) (h : AOps E r ops Q l (a.put d (optV g v)) st) : AOps E r ops Q l (a.put d (.opt g v)) st := by
  intro κ w act rd h1 h2 h3
  refine h κ w act rd h1 ⟨?_, ?_⟩ h3
  · cases d with
    | none => exact h2.t
    | some d => exact VRs_set_to (fun cv => optV_ok hc) h2.t
  · cases d with
    | none => exact h2.d
    | some d => exact h2.d
theorem AOps.putMono {E : Env} {r : Option Nat} {ops : Array Oper} {Q : APost} {l : List Nat} {a : AA} {d : Option Nat} {v v' : AV} {st : St} (hv : ∀ κ cv, VR κ v cv → VR κ v' cv) (h : AOps E r ops Q l (a.put d v') st) : AOps E r ops Q l (a.put d v) st := by
  intro κ w act rd h1 h2 h3
  refine h κ w act rd h1 ⟨?_, ?_⟩ h3
  · cases d with
    | none => exact h2.t
    | some d => exact VRs_set_to (hv κ) h2.t
  · cases d with
    | none => exact h2.d
    | some d => exact h2.d
theorem VR_opt_true {κ : K} {v : AV} {cv : Value} (h : VR κ v cv) : VR κ (.opt true v) cv := by
  simp only [VR]; exact ⟨fun _ => h, fun e => (by cases e)⟩
theorem VR_opt_false {κ : K} {v : AV} {cv : Value} (h : VR κ (.tup []) cv) : VR κ (.opt false v) cv := by
  simp only [VR, VRs] at h ⊢
  obtain ⟨vs, rfl, h⟩ := h
  refine ⟨fun e => (by cases e), fun _ => ?_⟩
  have : vs = #[] := by simpa using h
  rw [this]
def AOpsC (E : Env) (r : Option Nat) (ops : Array Oper) (Q : APost) (Kn : ANext) : List Nat → AA → St → Prop
  | [], a, st => Kn a st
  | i :: rest, a, st =>
    match ops[i]? with
    | none => AOpsC E r ops Q Kn rest a st
    | some o =>
      match o.guard with
      | none =>
        match pureOp E a o.op with
        | some (c, v) => c ∧ AOpsC E r ops Q Kn rest (a.put o.dst v) st
        | none => AOp E r o (AOps E r ops Q rest) Q a st
      | some (j, want) =>
        match (ops[j]?).bind (·.dst) with
        | none => False
        | some d =>
          match agd (a.get d) want with
          | none => False
          | some g =>
            match pureOp E a o.op with
            | some (c, v) => (g = true → c) ∧ optC g v ∧ AOpsC E r ops Q Kn rest (a.put o.dst (optV g v)) st
            | none => AOps E r ops Q (i :: rest) a st
section
variable {E : Env} {r : Option Nat} {Q : APost} {ops : Array Oper}
theorem AOpsC_ok {Kn : ANext} (hK : ∀ a st, Kn a st → Q .normal a st) : ∀ (l : List Nat) (a : AA) (st : St), AOpsC E r ops Q Kn l a st → AOps E r ops Q l a st
  | [], a, st, h => AOps.nil (hK _ _ h)
  | i :: rest, a, st, h => by
    simp only [AOpsC] at h
    split at h
    · rename_i ho; exact AOps.none ho (AOpsC_ok hK rest a st h)
    · rename_i o ho
      split at h
      · rename_i hg
        split at h
        · rename_i c v hp
          exact AOps.cons ho hg (AOp.pure (pureOp_ok hp h.1) (AOpsC_ok hK rest _ st h.2))
        · exact AOps.cons ho hg h
      · rename_i j want hg
        split at h
        · exact h.elim
        · rename_i d hd
          split at h
          · exact h.elim
          · rename_i g hy
            split at h
            · rename_i c v hp
              exact AOps.guard_pure ho hg hd hy (fun e => pureOp_ok hp (h.1 e)) (AOps.opt h.2.1 (AOpsC_ok hK rest _ st h.2.2))
            · exact h
theorem AW.regionC {id : Nat} {a : AA} {st : St} (h : ∀ (Q' : APost) (Kn : ANext), (∀ x a st, Q x a st → Q' x a st) → (∀ a st, Q .normal a st → Kn a st) → (∀ a st, Kn a st → Q' .normal a st) → AOpsC E r ops Q' Kn (List.range ops.size) a st) : AW E r (.region id ops false) Q a st :=
  AW.region (AOpsC_ok (fun _ _ h => h) _ _ _ (h Q (Q .normal) (fun _ _ _ h => h) (fun _ _ h => h) (fun _ _ h => h)))
inductive Weak : List AV → List AV → Prop
  | nil : Weak [] []
  | same (v : AV) {as bs : List AV} (h : Weak as bs) : Weak (v :: as) (v :: bs)
  | junk (v : AV) {as bs : List AV} (h : Weak as bs) : Weak (v :: as) (.junk :: bs)
theorem VRs_weak {κ : K} {as bs : List AV} (h : Weak as bs) : ∀ {vs : List Value}, VRs κ as vs → VRs κ bs vs := by
  induction h with
  | nil => exact fun h => h
  | same v h ih => intro vs hv; simp only [VRs] at hv ⊢; obtain ⟨u, us, rfl, h1, h2⟩ := hv; exact ⟨u, us, rfl, h1, ih h2⟩
  | junk v h ih => intro vs hv; simp only [VRs] at hv ⊢; obtain ⟨u, us, rfl, h1, h2⟩ := hv; exact ⟨u, us, rfl, by simp only [VR], ih h2⟩
theorem Weak.eqv {v v' : AV} (h : v = v') {as bs : List AV} (hw : Weak as bs) : Weak (v :: as) (v' :: bs) := by subst h; exact Weak.same v hw
theorem AW.weak {c : Code} {a : AA} {tm : List AV} {st : St} (h : Weak a.tm tm) (hk : AW E r c Q { tm := tm, ds := a.ds } st) : AW E r c Q a st :=
  fun κ w act rd h1 h2 h3 => hk κ w act rd h1 ⟨VRs_weak h h2.t, h2.d⟩ h3
theorem beq_true' (b : Bool) : (b == true) = b := by cases b <;> rfl
theorem beq_false' (b : Bool) : (b == false) = !b := by cases b <;> rfl
attribute [go_sem] Option.map_some Option.map_none optV optC Option.toArray List.append_nil List.toList_toArray AOpsC pureOp pureOp1 evU evC evCs unO unC AA.ev AA.get AA.put absV absS aBinOp aBin aInt aStr isShift aUn aConv aggT aIndex aSlice aBound aField aPart aExtract aLen aNil aIndexAddr aLoadF aMkI aPick aMin aMax aBuiltin agd Op.operands Call.operands
  List.getD_cons_zero List.getD_cons_succ List.set_cons_zero List.set_cons_succ List.map Option.map Option.bind_some true_and and_true or_true ite_true reduceIte and_self Bool.false_eq_true List.size_toArray List.length_cons List.length_nil List.range_succ List.range_zero List.nil_append List.cons_append List.getElem?_toArray List.getElem?_cons_zero List.getElem?_cons_succ List.append_toArray forall_const implies_true imp_self beq_true' beq_false' Bool.not_eq_true' AThen AInBlock ANoGoto ABody ALeave aRess aRes1 aTup
end
attribute [go_sem] aBuild aFill aCells splice List.take_succ_cons List.take_zero List.drop_succ_cons List.cons_append List.nil_append List.map_cons List.map_nil
end Go.Abs

/- THE ABSTRACT MEMORY (part 12): new blocks, stores. -/
namespace Go.Abs
open Go.RowKit
section
variable {E : Env} {κ : K} {st : St} {w : World} {a : AA} {act : Act} {r : Option Nat} {Q : APost} {Kn : ANext} {o : Oper}
theorem isCell_ok {v : AV} {cv : Value} (h : isCell v = true) (hv : VR κ v cv) : cv.oneCell' = true := by
  cases v <;> simp only [isCell, Bool.false_eq_true] at h
  all_goals
    simp only [VR] at hv
    first
      | (rcases hv with ⟨_, rfl⟩ | ⟨_, _, rfl, _⟩ <;> rfl)
      | (subst hv; rfl)
      | (obtain ⟨_, _, rfl, _⟩ := hv; rfl)
      | (obtain ⟨_, _, _, rfl, _⟩ := hv; rfl)
      | (obtain ⟨_, rfl, _⟩ := hv; rfl)
      | (obtain ⟨_, _, _, rfl, _⟩ := hv; rfl)
theorem VRF_iff {rd : Nat → Option Value} : ∀ {cs : List AV} {o : Nat}, VRF κ rd cs o ↔ ∀ j, j < cs.length → ∃ v, rd (o + j) = some v ∧ VR κ (cs.getD j .junk) v := by
  intro cs o
  refine ⟨fun h j hj => VRF_get h hj, ?_⟩
  induction cs generalizing o with
  | nil => intro _; simp [VRF]
  | cons c cs ih =>
    intro h
    simp only [VRF]
    refine ⟨by simpa using h 0 (by simp), ih fun j hj => ?_⟩
    obtain ⟨v, h1, h2⟩ := h (j + 1) (by simpa using hj)
    exact ⟨v, by rw [← h1]; congr 1; omega, by simpa using h2⟩
theorem VRE_iff {rd : Nat → Option Value} {sz : Nat} : ∀ {es : List (List AV)} {o : Nat}, VRE κ rd sz es o ↔ ∀ i, i < es.length → (es.getD i []).length = sz ∧ VRF κ rd (es.getD i []) (o + i * sz) := by
  intro es o
  refine ⟨fun h i hi => VRE_get h hi, ?_⟩
  induction es generalizing o with
  | nil => intro _; simp [VRE]
  | cons c cs ih =>
    intro h
    simp only [VRE]
    have h0 := h 0 (by simp)
    refine ⟨h0.1, by simpa using h0.2, ih fun j hj => ?_⟩
    obtain ⟨h1, h2⟩ := h (j + 1) (by simpa using hj)
    refine ⟨by simpa using h1, ?_⟩
    rw [show o + sz + j * sz = o + (j + 1) * sz from by rw [Nat.add_mul]; omega]
    simpa using h2
theorem VRs_VRF {cs : List AV} {vs : List Value} (h : VRs κ cs vs) {rd : Nat → Option Value} {o : Nat} (hr : ∀ j v, vs[j]? = some v → rd (o + j) = some v) : VRF κ rd cs o := by
  rw [VRF_iff]
  intro j hj
  obtain ⟨v, h1, h2⟩ := VRs_get h hj
  exact ⟨v, hr j v h1, h2⟩
theorem Rel.newCells (hR : Rel E κ st w) {id : Nat} (hid : κ.loc id = none) {sz cap : Nat} {es : List (List AV)} {c : Array Value} {t : TypeId}
    (hl : es.length ≤ cap) (hm : cap ≤ maxLen) (hc : c.size = cap * sz) (hE : VRE κ (fun o => c[o]?) sz es 0) :
    Rel E (κ.set id ⟨0, w.heap.size, cap, sz⟩) (st.set id (.cells t 0 sz es)) (w.alloc (.cells c t)) ∧ K.Le κ (κ.set id ⟨0, w.heap.size, cap, sz⟩) := by
  have hle : K.Le κ (κ.set id ⟨0, w.heap.size, cap, sz⟩) := K.le_set fun L0 h0 => by rw [hid] at h0; cases h0
  refine hR.alloc hid ⟨rfl, rfl, hl, hm, c, (0, 0), heap_alloc_new w _, hc, ?_, VRE.mono hle sz es _ _ (fun _ _ h => h) 0 hE⟩
  intro o _; simp
theorem VR_newptr {κ : K} {id b cap sz : Nat} : VR (κ.set id ⟨0, b, cap, sz⟩) (.ptr id 0 0 0) (.pointer (some ⟨b, 0, none⟩)) := by
  simp only [VR, K.set_same, Option.some.injEq]
  exact ⟨_, _, rfl, rfl, Nat.le_refl _, fun _ => by simp⟩
theorem AOp.of_value {s : Sem Value} (hd : ∀ c, o.op ≠ .defer c)
    (h : ∀ κ w act, Rel E κ st w → AR κ a act → ∃ cv κ' v st' w', (execOp act.eval o).run E.P w = .ok (.value cv) w' ∧ K.Le κ κ' ∧ Rel E κ' st' w' ∧ VR κ' v cv ∧ Kn (a.put o.dst v) st') : AOp E r o Kn Q a st := by
  intro κ w act rd hR hA hr
  obtain ⟨cv, κ', v, st', w', hrun, hle, hR', hv, hk⟩ := h κ w act hR hA
  refine ⟨fun _ _ => trivial, ?_⟩
  rw [semAt_of hd, hrun]
  exact ⟨κ', _, st', hle, hR', (hA.mono hle).put o.dst hv, hk⟩
theorem absSs_ok' (κ : K) (vs : Array Value) : VRs κ (vs.toList.map absS) vs.toList := absSs_ok κ _
theorem AOp.alloc {t : TypeId} {cs : List AV} (ho : o.op = .alloc t) (hz : zeroC E.P t = some cs) (h : ∀ id, st id = none → Kn (a.put o.dst (.ptr id 0 0 0)) (st.set id (.cells t 0 cs.length [cs]))) : AOp E r o Kn Q a st := by
  refine AOp.of_value (s := Sem.halt .blocked) (fun c => by rw [ho]; simp) fun κ w act hR hA => ?_
  obtain ⟨id, h1, h2⟩ := hR.fresh
  unfold zeroC at hz
  cases hi : E.P.info? t with
  | none => simp [hi] at hz
  | some i =>
    rw [hi] at hz
    cases hzz : i.zero with
    | none => simp [hzz] at hz
    | some z =>
      simp only [hzz, Option.bind_some, Option.map_some, Option.some.injEq] at hz
      subst hz
      have hcs := absSs_ok' κ z.cells
      obtain ⟨hR', hle⟩ := hR.newCells h1 (sz := (z.cells.toList.map absS).length) (cap := 1) (es := [z.cells.toList.map absS]) (c := z.cells) (t := t) (by simp) (by decide) (by simp)
        (by simp only [VRE, and_true, true_and]; exact VRs_VRF hcs (fun j v hv => by simpa using hv))
      refine ⟨.pointer (some ⟨w.heap.size, 0, none⟩), _, .ptr id 0 0 0, _, _, ?_, hle, hR', VR_newptr, h id h2⟩
      simp [execOp, ho, Instr.alloc, zeroValue, typeInfo, hi, hzz, newVar, newRow]
theorem AOp.box {t : TypeId} {x : Operand} {cs : List AV} (ho : o.op = .box t x) (hcs : evC E a x) (hx : aCells (evU E a x) = some cs) (h : ∀ id, st id = none → Kn (a.put o.dst (.ptr id 0 0 0)) (st.set id (.cells t 0 cs.length [cs]))) : AOp E r o Kn Q a st := by
  refine AOp.of_value (s := Sem.halt .blocked) (fun c => by rw [ho]; simp) fun κ w act hR hA => ?_
  obtain ⟨id, h1, h2⟩ := hR.fresh
  have hv := aCells_ok hx (unO_ok (hA.ev hR x) hcs)
  have hl := VRs_len hv
  simp only [Array.length_toList] at hl
  obtain ⟨hR', hle⟩ := hR.newCells h1 (sz := cs.length) (cap := 1) (es := [cs]) (c := (act.eval x).cells) (t := t) (by simp) (by decide) (by simp [hl])
    (by simp only [VRE, and_true, true_and]; exact VRs_VRF hv (fun j v hv => by simpa using hv))
  refine ⟨.pointer (some ⟨w.heap.size, 0, none⟩), _, .ptr id 0 0 0, _, _, ?_, hle, hR', VR_newptr, h id h2⟩
  simp [execOp, ho, Instr.box, newVar, newRow]
theorem AOp.load {t : TypeId} {x : Operand} {c : Prop} {v : AV} (ho : o.op = .load t x) (hcs : evC E a x) (hx : aLoad E.P st t (evU E a x) = some (c, v)) (hc : c) (h : Kn (a.put o.dst v) st) : AOp E r o Kn Q a st := by
  refine AOp.of_value (s := Sem.halt .blocked) (fun c => by rw [ho]; simp) fun κ w act hR hA => ?_
  obtain ⟨cv, hr, hv⟩ := aLoad_ok hR hx hc (unO_ok (hA.ev hR x) hcs)
  exact ⟨cv, κ, v, st, w, by simp [execOp, ho, hr], K.Le.refl κ, hR, hv, h⟩
theorem AOp.loadCell {t t0 : TypeId} {x : Operand} {id g sz i f : Nat} {es : List (List AV)} (ho : o.op = .load t x) (hx : evU E a x = .ptr id g i f) (hcs : evC E a x) (hst : st id = some (.cells t0 g sz es)) (hag : aggT E.P t = some false) (hi : i < es.length) (hf : f < sz)
    (h : Kn (a.put o.dst ((es.getD i []).getD f .junk)) st) : AOp E r o Kn Q a st :=
  AOp.load (c := g = g ∧ i < es.length ∧ f < sz) ho hcs (by simp only [hx, aLoad, hst, hag]) ⟨rfl, hi, hf⟩ h
theorem setCells_heap : ∀ (vs : List Value) {w : World} {b o : Nat} {c : Array Value} {t : TypeId} {fr : Nat × Nat}, w.heap[b]? = some (.cells c t fr) → (w.setCells b o vs).heap[b]? = some (.cells (setArr c o vs) t fr)
  | [], _, _, _, _, _, _, h => h
  | v :: r, w, b, o, c, t, fr, h => by
    refine setCells_heap r (w := w.setCell ⟨b, o, none⟩ v) ?_
    simp [World.setCell, Array.getElem?_modify, h]
theorem setCells_grownBy : ∀ (vs : List Value) (w : World) (b o : Nat), w.grownBy (w.setCells b o vs) (some b)
  | [], w, b, o => ⟨rfl, rfl, rfl, Nat.le_refl _, fun _ _ _ => rfl⟩
  | v :: r, w, b, o => by
    have h := setCells_grownBy r (w.setCell ⟨b, o, none⟩ v) b (o + 1)
    have hs : (w.setCell ⟨b, o, none⟩ v).heap.size = w.heap.size := by simp [World.setCell]
    exact ⟨h.os, h.tape, h.output, by rw [← hs]; exact h.size, fun k hk hne => by
      rw [World.setCells, h.block k (by rw [hs]; exact hk) hne]
      simp only [ne_eq, Option.some.injEq] at hne
      exact Below.heap_setCell _ _ _ _ hne⟩
theorem splice_len {l cs : List AV} {f : Nat} (h : f + cs.length ≤ l.length) : (splice l f cs).length = l.length := by
  simp only [splice, List.length_append, List.length_take, List.length_drop]; omega
theorem splice_lo {l cs : List AV} {f j : Nat} (h : f + cs.length ≤ l.length) (hj : j < f) : (splice l f cs).getD j .junk = l.getD j .junk := by
  simp only [splice, List.getD, List.append_assoc]
  rw [List.getElem?_append_left (by rw [List.length_take]; omega), List.getElem?_take_of_lt hj]
theorem splice_mid {l cs : List AV} {f j : Nat} (h : f + cs.length ≤ l.length) (h1 : f ≤ j) (h2 : j < f + cs.length) : (splice l f cs).getD j .junk = cs.getD (j - f) .junk := by
  simp only [splice, List.getD, List.append_assoc]
  rw [List.getElem?_append_right (by rw [List.length_take]; omega), List.length_take, Nat.min_eq_left (by omega), List.getElem?_append_left (by omega)]
theorem splice_hi {l cs : List AV} {f j : Nat} (h : f + cs.length ≤ l.length) (h1 : f + cs.length ≤ j) : (splice l f cs).getD j .junk = l.getD j .junk := by
  simp only [splice, List.getD, List.append_assoc]
  rw [List.getElem?_append_right (by rw [List.length_take]; omega), List.length_take, Nat.min_eq_left (by omega), List.getElem?_append_right (by omega), List.getElem?_drop]
  congr 2; omega
theorem Rel.write (hR : Rel E κ st w) {t0 : TypeId} {id g sz i f : Nat} {es : List (List AV)} (hst : st id = some (.cells t0 g sz es)) {cs : List AV} {vs : List Value} (hv : VRs κ cs vs) (hi : i < es.length) (hf : f + cs.length ≤ sz) :
    ∃ L, κ.loc id = some L ∧ L.gen = g ∧ L.sz = sz ∧ Rel E (κ.set id L) (st.set id (.cells t0 g sz (es.set i (splice (es.getD i []) f cs)))) (w.setCells L.b (i * sz + f) vs) ∧ K.Le κ (κ.set id L) ∧
      (∀ j, j < vs.length → (w.cell? ⟨L.b, i * sz + f + j, none⟩).isSome = true) ∧ (∀ j, j < vs.length → w.frozen? ⟨L.b, i * sz + f + j, none⟩ = false) := by
  obtain ⟨L, hL, hB, hown, hlt⟩ := hR.dom id _ hst
  obtain ⟨e1, e2, hl, hm, c, fr, hh, hsz, hfr, hE⟩ := hB
  have hvl := VRs_len hv
  have hbound : i * sz + sz ≤ L.cap * sz := by
    have : (i + 1) * sz ≤ L.cap * sz := Nat.mul_le_mul_right _ (by omega)
    rw [Nat.add_mul] at this; omega
  have hle : ∀ L0, κ.loc id = some L0 → L0.gen ≤ L.gen ∧ (L.gen = L0.gen → L = L0) ∧ L.sz = L0.sz := fun L0 h0 => by rw [hL] at h0; cases h0; exact ⟨Nat.le_refl _, fun _ => rfl, rfl⟩
  have hK : K.Le κ (κ.set id L) := K.le_set hle
  have hnew : VRE κ (fun o => (setArr c (i * sz + f) vs)[o]?) sz (es.set i (splice (es.getD i []) f cs)) 0 := by
    rw [VRE_iff] at hE ⊢
    intro i' hi'
    simp only [List.length_set] at hi'
    obtain ⟨q1, q2⟩ := hE i' hi'
    simp only [Nat.zero_add] at q2 ⊢
    by_cases e : i' = i
    · subst e
      have hgd : (es.set i' (splice (es.getD i' []) f cs)).getD i' [] = splice (es.getD i' []) f cs := by simp [List.getD, List.getElem?_set_self hi]
      rw [hgd]
      generalize es.getD i' [] = l at q1 q2 ⊢
      have hfl : f + cs.length ≤ l.length := by omega
      have hlen := splice_len hfl
      refine ⟨hlen.trans q1, ?_⟩
      rw [VRF_iff] at q2 ⊢
      intro j hj
      rw [hlen] at hj
      by_cases hj1 : j < f
      · obtain ⟨v, h1, h2⟩ := q2 j hj
        exact ⟨v, by rw [← h1]; exact setArr_out _ _ _ _ (by omega), by rw [splice_lo hfl hj1]; exact h2⟩
      · by_cases hj2 : j < f + cs.length
        · obtain ⟨v, h1, h2⟩ := VRs_get hv (i := j - f) (by omega)
          refine ⟨v, ?_, by rw [splice_mid hfl (by omega) hj2]; exact h2⟩
          rw [← h1, show i' * sz + j = i' * sz + f + (j - f) from by omega]
          exact setArr_in _ _ _ _ (by omega) (by omega)
        · obtain ⟨v, h1, h2⟩ := q2 j hj
          exact ⟨v, by rw [← h1]; exact setArr_out _ _ _ _ (by omega), by rw [splice_hi hfl (by omega)]; exact h2⟩
    · have hgd : (es.set i (splice (es.getD i []) f cs)).getD i' [] = es.getD i' [] := by simp [List.getD, List.getElem?_set_ne (Ne.symm e)]
      rw [hgd]
      refine ⟨q1, ?_⟩
      rw [VRF_iff] at q2 ⊢
      intro j hj
      obtain ⟨v, h1, h2⟩ := q2 j hj
      refine ⟨v, by
        rw [← h1]
        refine setArr_out _ _ _ _ ?_
        rw [q1] at hj
        rcases Nat.lt_or_ge i' i with hlt' | hge
        · have : (i' + 1) * sz ≤ i * sz := Nat.mul_le_mul_right _ hlt'
          rw [Nat.add_mul] at this; omega
        · have : (i + 1) * sz ≤ i' * sz := Nat.mul_le_mul_right _ (by omega)
          rw [Nat.add_mul] at this; omega, h2⟩
  refine ⟨L, hL, e1, e2, hR.put hle (setCells_grownBy vs w L.b _) ?_ ?_ (.inl ⟨L, by simp [hst], hL, rfl⟩), hK, fun j hj => ?_, fun j hj => ?_⟩
  · exact ⟨e1, e2, by simpa using hl, hm, _, fr, setCells_heap vs hh, by rw [setArr_size]; exact hsz, hfr, VRE.mono hK sz _ _ _ (fun _ _ h => h) 0 hnew⟩
  · exact Nat.lt_of_lt_of_le hlt (setCells_grownBy vs w L.b _).size
  · rw [cell_of_cells hh]
    have : i * sz + f + j < c.size := by omega
    simp [this]
  · simp only [World.frozen?, hh]
    exact hfr _ (by omega)
theorem AOp.store {t t0 : TypeId} {x y : Operand} {id g sz i f : Nat} {es : List (List AV)} {cs : List AV} (ho : o.op = .store t x y) (hx : evU E a x = .ptr id g i f) (hcs : evCs E a [x, y]) (hst : st id = some (.cells t0 g sz es))
    (hv : aCells (evU E a y) = some cs) (hone : cs.all isCell = true) (hn : tsz E.P t = some cs.length) (hi : i < es.length) (hf : f + cs.length ≤ sz)
    (hk : Kn (a.put o.dst (.tup [])) (st.set id (.cells t0 g sz (es.set i (splice (es.getD i []) f cs))))) : AOp E r o Kn Q a st := by
  intro κ w act rd hR hA hr
  have hvx := unO_ok (hA.ev hR x) hcs.1
  rw [show unO (a.ev E x) = evU E a x from rfl, hx] at hvx
  have hvy := aCells_ok hv (unO_ok (hA.ev hR y) hcs.2.1)
  obtain ⟨L, hL, e1, e2, hR', hK, hc, hfr⟩ := hR.write hst hvy hi hf
  simp only [VR] at hvx
  obtain ⟨ad, L', hxe, hL', hg, ha⟩ := hvx
  rw [hL] at hL'; cases hL'
  have hae := ha e1
  rw [e2] at hae
  have h1 : ∀ v ∈ (act.eval y).cells.toList, v.oneCell' = true := by
    intro v hv'
    obtain ⟨j, hj, rfl⟩ := List.getElem_of_mem hv'
    have hl := VRs_len hvy
    obtain ⟨u, hu, hu2⟩ := VRs_get hvy (i := j) (by omega)
    rw [List.getElem?_eq_getElem hj] at hu
    cases hu
    refine isCell_ok (κ := κ) ?_ hu2
    have hmem : cs.getD j .junk ∈ cs := by
      rw [List.getD, List.getElem?_eq_getElem (by omega)]; simp
    exact (List.all_eq_true.1 hone) _ hmem
  have hst' := run_storeCells_cells (P := E.P) L.b (i * sz + f) (act.eval y).cells.toList 0 w (by simpa using hc) (by simpa using hfr) h1
  simp only [Nat.add_zero] at hst'
  have hlen : (act.eval y).cells.size = cs.length := by have := VRs_len hvy; simpa using this
  refine ⟨fun _ _ => trivial, ?_⟩
  rw [semAt_of (fun c => by rw [ho]; simp)]
  have hrun : (execOp act.eval o).run E.P w = .ok .skip (w.setCells L.b (i * sz + f) (act.eval y).cells.toList) := by
    simp [execOp, ho, Instr.storeAt, Instr.sureAddr, hxe, storeVar, run_sz hn, hlen, hae, hst']
  rw [hrun]
  exact ⟨_, _, _, hK, hR', (hA.mono hK).put o.dst (by simp only [VR, undef]; exact ⟨#[], rfl, by simp [VRs]⟩), hk⟩
end
end Go.Abs

/- THE ABSTRACT MEMORY (part 13): slices that grow. -/
namespace Go.Abs
open Go.RowKit
def aElems (st : St) (x : AV) : Option (List (List AV)) :=
  match x with
  | .tree _ es => some es
  | .arr id g _ off len =>
    match st id with
    | some (.cells _ g' _ es) => if g = g' ∧ off + len ≤ es.length then some ((es.drop off).take len) else none
    | _ => none
  | _ => none
def aSz : AV → Option Nat
  | .tree sz _ => some sz
  | .arr _ _ sz _ _ => some sz
  | _ => none
def tby (P : Program) (t : TypeId) : Option Nat := (P.info? t).map (·.bytes)
def hasZero (P : Program) (t : TypeId) : Option Nat := ((P.info? t).bind (·.zero)).map fun z => z.cells.size
section
variable {E : Env} {κ : K} {st : St} {w : World} {a : AA} {act : Act} {r : Option Nat} {Q : APost} {Kn : ANext} {o : Oper}
theorem VRE_flat {rd : Nat → Option Value} {sz : Nat} : ∀ {es : List (List AV)} {o : Nat}, VRE κ rd sz es o → (∀ e ∈ es, e.length = sz) ∧ ∃ vs : List Value, vs.length = es.length * sz ∧ VRs κ es.flatten vs ∧ ∀ j v, vs[j]? = some v → rd (o + j) = some v
  | [], o, _ => ⟨by simp, [], by simp, by simp [VRs], by simp⟩
  | e :: es, o, h => by
    simp only [VRE] at h
    obtain ⟨h1, h2, h3⟩ := h
    obtain ⟨g1, vs, g2, g3, g4⟩ := VRE_flat h3
    obtain ⟨us, k1, k2, k3⟩ := VRF_read h2
    refine ⟨by intro x hx; cases hx with | head => exact h1 | tail _ hm => exact g1 x hm, us ++ vs, by simp [k1, g2, h1, Nat.add_mul]; omega, by simpa using VRs_append k2 g3, ?_⟩
    intro j v hv
    by_cases hj : j < us.length
    · rw [List.getElem?_append_left hj] at hv; exact k3 j v hv
    · rw [List.getElem?_append_right (by omega)] at hv
      have := g4 _ v hv
      rw [← this]; congr 1; omega
theorem VRs_split {as bs : List AV} : ∀ {vs : List Value}, VRs κ (as ++ bs) vs → ∃ us ws, vs = us ++ ws ∧ us.length = as.length ∧ VRs κ as us ∧ VRs κ bs ws := by
  induction as with
  | nil => intro vs h; exact ⟨[], vs, rfl, rfl, by simp [VRs], h⟩
  | cons a as ih =>
    intro vs h
    simp only [List.cons_append, VRs] at h
    obtain ⟨v, vs', rfl, h1, h2⟩ := h
    obtain ⟨us, ws, rfl, h3, h4, h5⟩ := ih h2
    exact ⟨v :: us, ws, rfl, by simp [h3], by simp only [VRs]; exact ⟨v, us, rfl, h1, h4⟩, h5⟩
theorem VRE_of_flat {rd : Nat → Option Value} {sz : Nat} : ∀ {es : List (List AV)} {vs : List Value} {o : Nat}, (∀ e ∈ es, e.length = sz) → VRs κ es.flatten vs → (∀ j v, vs[j]? = some v → rd (o + j) = some v) → VRE κ rd sz es o
  | [], vs, o, _, _, _ => by simp [VRE]
  | e :: es, vs, o, h1, h2, h3 => by
    simp only [List.flatten_cons] at h2
    obtain ⟨us, ws, rfl, g1, g2, g3⟩ := VRs_split h2
    have he := h1 e (by simp)
    simp only [VRE]
    refine ⟨he, VRs_VRF g2 (fun j v hv => h3 j v (by rw [List.getElem?_append_left (List.getElem?_eq_some_iff.1 hv).1]; exact hv)), VRE_of_flat (fun x hx => h1 x (by simp [hx])) g3 (fun j v hv => ?_)⟩
    have := h3 (us.length + j) v (by rw [List.getElem?_append_right (by omega)]; simpa using hv)
    rw [← this]; congr 1; omega
theorem elems_ok (hR : Rel E κ st w) {x : AV} {cx : Value} {xs : List (List AV)} {sz : Nat} (h : aElems st x = some xs) (hs : aSz x = some sz) (hne : xs ≠ [] ∨ ∃ id g z off n, x = .arr id g z off n) (hx : VR κ x cx) :
    (∀ e ∈ xs, e.length = sz) ∧ ∃ ad c vs, cx = .slice (some ad) xs.length c ∧ vs.length = xs.length * sz ∧ VRs κ xs.flatten vs ∧ ∀ j u, vs[j]? = some u → w.cell? (ad.add j) = some u := by
  unfold aElems at h
  split at h <;> first | cases h | skip
  · rename_i sz' es
    simp only [aSz, Option.some.injEq] at hs
    subst hs
    simp only [VR] at hx
    rcases hx with ⟨rfl, rfl⟩ | ⟨⟨b, o, sp⟩, cap, rfl, _, hsp, hE⟩
    · rcases hne with h | ⟨_, _, _, _, _, h⟩
      · exact absurd rfl h
      · cases h
    obtain ⟨h1, vs, h2, h3, h4⟩ := VRE_flat hE
    refine ⟨h1, _, _, vs, rfl, h2, h3, fun j u hu => ?_⟩
    rcases hsp with rfl | hs
    · have : vs.length = 0 := by rw [h2]; simp
      rw [List.eq_nil_of_length_eq_zero this] at hu; simp at hu
    · obtain rfl : sp = none := hs
      rw [addr_add]; exact hR.fzw _ _ _ (h4 j u hu)
  · rename_i id g sz' off len
    simp only [aSz, Option.some.injEq] at hs
    subst hs
    split at h <;> first | cases h | skip
    rename_i t' g' sz'' es hst
    split at h <;> first | cases h | skip
    rename_i hc
    obtain ⟨rfl, hle⟩ := hc
    obtain ⟨L, hL, hB, _, _⟩ := hR.dom id _ hst
    obtain ⟨e1, e2, hl, hm, c, fr, hh, hsz, hfr, hE⟩ := hB
    simp only [VR] at hx
    obtain ⟨ad, cap, L', rfl, hlc, hL', hs', hg, ha⟩ := hx
    rw [hL] at hL'; cases hL'
    have hss : sz'' = sz' := by rw [← e2]; exact hs'
    subst hss
    have hlen : ((es.drop off).take len).length = len := by rw [List.length_take, List.length_drop]; omega
    have hE2 := VRE_take len (VRE_drop off hE (by omega))
    obtain ⟨h1, vs, h2, h3, h4⟩ := VRE_flat hE2
    refine ⟨h1, ad, cap, vs, by rw [hlen], h2, h3, fun j u hu => ?_⟩
    rcases ha e1 with ⟨q1, q2, q3⟩ | ⟨q1, q2⟩
    · rw [q1, addr_add, cell_of_cells hh]
      have := h4 j u hu
      simpa using this
    · subst q1
      have : vs.length = 0 := by rw [h2, hlen]; simp
      rw [List.eq_nil_of_length_eq_zero this] at hu
      simp at hu
theorem flat_all {xs : List (List AV)} {vs : List Value} (hone : ∀ e ∈ xs, ∀ c ∈ e, isCell c = true) (hv : VRs κ xs.flatten vs) : ∀ v ∈ vs, v.oneCell' = true := by
  intro v hv'
  obtain ⟨j, hj, rfl⟩ := List.getElem_of_mem hv'
  have hl := VRs_len hv
  obtain ⟨u, hu, hu2⟩ := VRs_get hv (i := j) (by omega)
  rw [List.getElem?_eq_getElem hj] at hu
  cases hu
  refine isCell_ok (κ := κ) ?_ hu2
  have hmem : xs.flatten.getD j .junk ∈ xs.flatten := by
    rw [List.getD, List.getElem?_eq_getElem (by omega)]; simp
  obtain ⟨e, he, hc⟩ := List.mem_flatten.1 hmem
  exact hone e he _ hc
theorem zero_info {P : Program} {t : TypeId} {z : Nat} (h : hasZero P t = some z) : ∃ i zv, P.info? t = some i ∧ i.zero = some zv ∧ zv.cells.size = z := by
  unfold hasZero at h
  cases hi : P.info? t with
  | none => simp [hi] at h
  | some i =>
    cases hz : i.zero with
    | none => simp [hi, hz] at h
    | some zv => simp [hi, hz] at h; exact ⟨i, zv, rfl, hz, h⟩
theorem AOp.append {t e : TypeId} {x y : Operand} {id g sz by_ n : Nat} {es xs : List (List AV)} (ho : o.op = .call { callee := .builtin .append, args := #[x, y], argTypes := #[t, t] })
    (hcs : evCs E a [x, y]) (ht : E.P.underlying t = some (.slice e)) (hz : tsz E.P e = some sz) (hzz : hasZero E.P e = some sz) (hb : tby E.P e = some by_) (hpos : 0 < sz)
    (hs : evU E a x = .arr id g sz 0 n) (hst : st id = some (.cells e g sz es)) (hn : n = es.length) (hy : aElems st (evU E a y) = some xs) (hys : aSz (evU E a y) = some sz) (hone : ∀ e ∈ xs, ∀ c ∈ e, isCell c = true)
    (hlim : (es.length + xs.length) * by_ ≤ 140737488355328) (hlim2 : es.length + xs.length ≤ maxLen) (hne : xs ≠ [])
    (hk : Kn (a.put o.dst (.arr id (g + 1) sz 0 (es.length + xs.length))) (st.set id (.cells e (g + 1) sz (es ++ xs)))) : AOp E r o Kn Q a st := by
  refine AOp.of_value (s := Sem.halt .blocked) (fun c => by rw [ho]; simp) fun κ w act hR hA => ?_
  subst hn
  have hvx := unO_ok (hA.ev hR x) hcs.1
  rw [show unO (a.ev E x) = evU E a x from rfl, hs] at hvx
  obtain ⟨hxl, ad, yc, news, hye, hnl, hnv, hnc⟩ := elems_ok hR hy hys (.inl hne) (unO_ok (hA.ev hR y) hcs.2.1)
  obtain ⟨i, zv, hi, hizero, hzsz⟩ := zero_info hzz
  have hisz : i.size = sz := by simp [tsz, hi] at hz; exact hz
  have hiby : i.bytes = by_ := by simp [tby, hi] at hb; exact hb
  obtain ⟨L, hL, hB, hown, hlt⟩ := hR.dom id _ hst
  obtain ⟨e1, e2, hl, hm, c, fr, hh, hsz, hfr, hE⟩ := hB
  obtain ⟨hel, olds, hol, hov, hoc⟩ := VRE_flat hE
  simp only [VR] at hvx
  obtain ⟨ax, cap, L', hxe, hlc, hL', hs', hg, ha⟩ := hvx
  rw [hL] at hL'; cases hL'
  have h1 := flat_all hone hnv
  have hexec : (execOp act.eval o).run E.P w = ((Builtin.append_ #[t, t] o.type #[.slice (some ax) es.length cap, .slice (some ad) xs.length yc]).run E.P w).andThen fun v w => .ok (.value v) w := by
    simp [execOp, ho, resolve, invoke, builtin, hxe, hye]
  have hall : ∀ e ∈ es ++ xs, e.length = sz := by
    intro e he; rcases List.mem_append.1 he with h | h
    · exact hel e h
    · exact hxl e h
  by_cases hroom : es.length + xs.length ≤ cap
  · -- there is room
    rcases ha e1 with ⟨q1, q2, q3⟩ | ⟨q1, q2⟩
    · simp only [Nat.zero_mul] at q1
      subst q1
      have hcapL : cap = L.cap := by omega
      have hb2 : es.length * sz + news.length ≤ L.cap * sz := by
        rw [hnl, ← Nat.add_mul]; exact Nat.mul_le_mul_right _ (by omega)
      have hrun := run_append_room_cells (P := E.P) w t o.type e i ht hi L.b 0 es.length cap ad xs.length yc news (by rw [hnl, hisz]) hnc h1 hroom
        (fun j hj => by rw [cell_of_cells hh, hisz, Nat.zero_add]; simp; omega) (fun j hj => by simp only [World.frozen?, hh]; exact hfr _ (by rw [hisz, Nat.zero_add]; omega))
      rw [hisz, Nat.zero_add] at hrun
      let L' : Loc := { L with gen := g + 1 }
      have hle : ∀ L0, κ.loc id = some L0 → L0.gen ≤ L'.gen ∧ (L'.gen = L0.gen → L' = L0) ∧ L'.sz = L0.sz := fun L0 h0 => by
        rw [hL] at h0; cases h0; exact ⟨by simp [L', e1], fun e => by simp [L', e1] at e, rfl⟩
      have hK : K.Le κ (κ.set id L') := K.le_set hle
      refine ⟨.slice (some ⟨L.b, 0, none⟩) (es.length + xs.length) cap, κ.set id L', _, _, w.setCells L.b (es.length * sz) news, by rw [hexec, hrun]; rfl, hK, ?_, ?_, hk⟩
      · refine hR.put hle (setCells_grownBy news w L.b _) ?_ (Nat.lt_of_lt_of_le hlt (setCells_grownBy news w L.b _).size) (.inl ⟨L, by simp [hst], hL, rfl⟩)
        refine ⟨rfl, e2, by simp only [List.length_append]; show _ ≤ L.cap; omega, hm, _, fr, setCells_heap news hh, by rw [setArr_size]; exact hsz, hfr, ?_⟩
        refine VRE.mono hK sz _ _ _ (fun _ _ h => h) 0 ?_
        refine VRE_of_flat hall (vs := olds ++ news) (by simpa using VRs_append hov hnv) ?_
        intro j v hv
        simp only [Nat.zero_add]
        by_cases hj : j < olds.length
        · rw [List.getElem?_append_left hj] at hv
          rw [setArr_out _ _ _ _ (by omega)]
          simpa using hoc j v hv
        · rw [List.getElem?_append_right (by omega)] at hv
          have hj2 := (List.getElem?_eq_some_iff.1 hv).1
          rw [← hv, show j = es.length * sz + (j - olds.length) from by omega, setArr_in _ _ _ _ (by omega) (by omega)]
          congr 1; omega
      · simp only [VR, K.set_same, Option.some.injEq]
        exact ⟨_, _, _, rfl, ⟨rfl, by omega⟩, rfl, e2, Nat.le_refl _, fun _ => .inl ⟨by simp [L'], by simp [L', hcapL], by simp only [L']; omega⟩⟩
    · -- an empty slice without room: nothing is appended
      have hx0 : xs.length = 0 := by omega
      have hx1 : xs = [] := List.eq_nil_of_length_eq_zero hx0
      have hn0 : news = [] := List.eq_nil_of_length_eq_zero (by rw [hnl, hx0, Nat.zero_mul])
      subst hx1
      subst hn0
      have hrun : (Builtin.append_ #[t, t] o.type #[.slice (some ax) es.length cap, .slice (some ad) 0 yc]).run E.P w = .ok (.slice (some ax) es.length cap) w := by
        simp [Builtin.append_, run_underlying ht, sizeOf, typeInfo, hi, Builtin.lenOf, hlc.2, Builtin.firstCells, loadCells, loadCellsFrom, storeCells]
      let L' : Loc := { L with gen := g + 1 }
      have hle : ∀ L0, κ.loc id = some L0 → L0.gen ≤ L'.gen ∧ (L'.gen = L0.gen → L' = L0) ∧ L'.sz = L0.sz := fun L0 h0 => by
        rw [hL] at h0; cases h0; exact ⟨by simp [L', e1], fun e => by simp [L', e1] at e, rfl⟩
      have hK : K.Le κ (κ.set id L') := K.le_set hle
      refine ⟨.slice (some ax) es.length cap, κ.set id L', _, _, w, by rw [hexec]; exact (congrArg (fun x => Result.andThen x _) hrun).trans rfl, hK, ?_, ?_, hk⟩
      · refine hR.put hle ⟨rfl, rfl, rfl, Nat.le_refl _, fun _ _ _ => rfl⟩ ?_ hlt (.inl ⟨L, by simp [hst], hL, rfl⟩)
        exact ⟨rfl, e2, by simpa using hl, hm, c, fr, hh, hsz, hfr, by simpa using VRE.mono hK sz _ _ _ (fun _ _ h => h) 0 hE⟩
      · simp only [VR, K.set_same, Option.some.injEq]
        exact ⟨_, _, _, rfl, ⟨hlc.1, by simpa using hlc.2⟩, rfl, e2, Nat.le_refl _, fun _ => .inr ⟨by simpa using q1, q2⟩⟩
  · -- a new array
    have hax : ∀ j u, olds[j]? = some u → w.cell? (ax.add j) = some u := by
      intro j u hu
      rcases ha e1 with ⟨q1, q2, q3⟩ | ⟨q1, q2⟩
      · rw [q1, addr_add, cell_of_cells hh]
        have := hoc j u hu
        simpa using this
      · have : olds.length = 0 := by rw [hol, q1, Nat.zero_mul]
        rw [List.eq_nil_of_length_eq_zero this] at hu
        simp at hu
    obtain ⟨v', w', hrun, hown', hgr⟩ := run_append_arg_grows (P := E.P) w t o.type e i zv sz by_ ht hi hizero hisz hiby hzsz hpos ax es.length cap olds hol hax ad xs.length yc news hnl hnc (by omega) hlim2 hlim
    have hpos2 : 0 < es.length + xs.length := by omega
    obtain ⟨hlen', hv'⟩ := hown'
    rcases hv' with ⟨_, h0⟩ | ⟨gb, cap', cur, rfl, hgb, hcur, hnc', hcm, hcs2, htake⟩
    · omega
    · have hgrow : w.grownBy w' (some gb) := ⟨hgr.os, hgr.tape, hgr.output, hgr.size, fun k hk _ => hgr.block k hk (by simp)⟩
      let L' : Loc := ⟨g + 1, gb, cap', sz⟩
      have hle : ∀ L0, κ.loc id = some L0 → L0.gen ≤ L'.gen ∧ (L'.gen = L0.gen → L' = L0) ∧ L'.sz = L0.sz := fun L0 h0 => by
        rw [hL] at h0; cases h0; exact ⟨by simp [L', e1], fun e => by simp [L', e1] at e, by simp [L', e2]⟩
      have hK : K.Le κ (κ.set id L') := K.le_set hle
      refine ⟨_, κ.set id L', _, _, w', by rw [hexec, hrun]; rfl, hK, ?_, ?_, hk⟩
      · refine hR.put hle hgrow ?_ (Array.getElem?_eq_some_iff.1 hcur).1 (.inr hgb)
        refine ⟨rfl, rfl, by simp only [List.length_append]; exact hnc', hcm, cur, (0, 0), hcur, hcs2, fun o' _ => by simp, ?_⟩
        refine VRE.mono hK sz _ _ _ (fun _ _ h => h) 0 ?_
        refine VRE_of_flat hall (vs := olds ++ news) (by simpa using VRs_append hov hnv) ?_
        intro j v hv
        simp only [Nat.zero_add]
        rw [← htake, List.getElem?_take] at hv
        split at hv
        · simpa using hv
        · cases hv
      · simp only [VR, K.set_same, Option.some.injEq]
        exact ⟨_, _, _, rfl, ⟨rfl, hnc'⟩, rfl, rfl, Nat.le_refl _, fun _ => .inl ⟨by simp [L'], by simp [L'], by simpa [L'] using hnc'⟩⟩
theorem AOp.append_nil {t e : TypeId} {x y : Operand} {sz by_ : Nat} {xs : List (List AV)} (ho : o.op = .call { callee := .builtin .append, args := #[x, y], argTypes := #[t, t] })
    (hcs : evCs E a [x, y]) (ht : E.P.underlying t = some (.slice e)) (hz : tsz E.P e = some sz) (hzz : hasZero E.P e = some sz) (hb : tby E.P e = some by_) (hpos : 0 < sz)
    (hs : evU E a x = .nils) (hy : aElems st (evU E a y) = some xs) (hys : aSz (evU E a y) = some sz) (hone : ∀ e ∈ xs, ∀ c ∈ e, isCell c = true)
    (hlim : xs.length * by_ ≤ 140737488355328) (hlim2 : xs.length ≤ maxLen) (hne : xs ≠ [])
    (h0 : xs = [] → Kn (a.put o.dst .nils) st)
    (h1 : xs ≠ [] → ∀ id, st id = none → Kn (a.put o.dst (.arr id 0 sz 0 xs.length)) (st.set id (.cells e 0 sz xs))) : AOp E r o Kn Q a st := by
  refine AOp.of_value (s := Sem.halt .blocked) (fun c => by rw [ho]; simp) fun κ w act hR hA => ?_
  have hvx := unO_ok (hA.ev hR x) hcs.1
  rw [show unO (a.ev E x) = evU E a x from rfl, hs] at hvx
  simp only [VR] at hvx
  obtain ⟨hxl, ad, yc, news, hye, hnl, hnv, hnc⟩ := elems_ok hR hy hys (.inl hne) (unO_ok (hA.ev hR y) hcs.2.1)
  obtain ⟨i, zv, hi, hizero, hzsz⟩ := zero_info hzz
  have hisz : i.size = sz := by simp [tsz, hi] at hz; exact hz
  have hiby : i.bytes = by_ := by simp [tby, hi] at hb; exact hb
  have hexec : (execOp act.eval o).run E.P w = ((Builtin.append_ #[t, t] o.type #[.slice none 0 0, .slice (some ad) xs.length yc]).run E.P w).andThen fun v w => .ok (.value v) w := by
    simp [execOp, ho, resolve, invoke, builtin, hvx, hye]
  have h1c := flat_all hone hnv
  have hown0 : w.ownsRow w.heap.size e sz (.slice none 0 0) 0 [] := World.ownsRow_nil w _ e sz
  obtain ⟨v', w', hrun, hown', hgr, hiff⟩ := run_append_own (P := E.P) w w.heap.size t o.type e i zv sz by_ ht hi hizero hisz hiby hzsz hpos _ 0 [] hown0 ad xs.length yc news hnl hnc h1c (by omega) (by simpa using hlim) (Nat.le_refl _)
  obtain ⟨hlen', hv'⟩ := hown'
  by_cases hx : xs = []
  · subst hx
    have : v' = .slice none 0 0 := hiff.2 ⟨rfl, rfl⟩
    subst this
    have hrun0 : (Builtin.append_ #[t, t] o.type #[.slice none 0 0, .slice (some ad) 0 yc]).run E.P w = .ok (.slice none 0 0) w := by
      simp [Builtin.append_, run_underlying ht, sizeOf, typeInfo, hi, Builtin.lenOf, Builtin.firstCells, loadCells, loadCellsFrom]
    exact ⟨.slice none 0 0, κ, .nils, st, w, by rw [hexec]; exact (congrArg (fun x => Result.andThen x _) hrun0).trans rfl, K.Le.refl κ, hR, by simp [VR], h0 rfl⟩
  · have hpos2 : 0 < xs.length := by cases xs with | nil => exact absurd rfl hx | cons _ _ => simp
    rcases hv' with ⟨_, h0'⟩ | ⟨gb, cap', cur, rfl, hgb, hcur, hnc', hcm, hcs2, htake⟩
    · omega
    · obtain ⟨id, hid1, hid2⟩ := hR.fresh
      have hgrow : w.grownBy w' (some gb) := ⟨hgr.os, hgr.tape, hgr.output, hgr.size, fun k hk _ => hgr.block k hk (by simp [Value.ownBlock])⟩
      let L' : Loc := ⟨0, gb, cap', sz⟩
      have hle : ∀ L0, κ.loc id = some L0 → L0.gen ≤ L'.gen ∧ (L'.gen = L0.gen → L' = L0) ∧ L'.sz = L0.sz := fun L0 h0 => by rw [hid1] at h0; cases h0
      have hK : K.Le κ (κ.set id L') := K.le_set hle
      refine ⟨_, κ.set id L', _, _, w', by rw [hexec, hrun]; rfl, hK, ?_, ?_, h1 hx id hid2⟩
      · refine hR.put hle hgrow ?_ (Array.getElem?_eq_some_iff.1 hcur).1 (.inr hgb)
        refine ⟨rfl, rfl, by simpa using hnc', hcm, cur, (0, 0), hcur, hcs2, fun o' _ => by simp, ?_⟩
        refine VRE.mono hK sz _ _ _ (fun _ _ h => h) 0 ?_
        refine VRE_of_flat hxl (vs := news) hnv ?_
        intro j v hv
        simp only [Nat.zero_add]
        rw [List.nil_append] at htake
        rw [← htake, List.getElem?_take] at hv
        split at hv
        · simpa using hv
        · cases hv
      · simp only [VR, K.set_same, Option.some.injEq]
        exact ⟨_, _, _, by rw [Nat.zero_add], ⟨rfl, by simpa using hnc'⟩, rfl, rfl, Nat.le_refl _, fun _ => .inl ⟨by simp [L'], by simp [L'], by simpa [L'] using hnc'⟩⟩
end
end Go.Abs
