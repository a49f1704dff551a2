/- RecurSimple: a plain daily rule has one occurrence each day; one with Count has so many at most, none behind Last, and one with Until none behind that but its start; the listed tables tied to the text of the program. -/
import Derived.Test.YtbknconfeiojcaaGreatDoorRows
import Derived.Test.YtbknconfeiojcaaGreatDoorM2
import Derived.WalkKit
import Derived.ProofKit
import Derived.OpenShut
import Derived.JoinedCond
import Derived.Test.YtbknconfeiojcaaGreatDoorCards
import Derived.Test.YtbknconfeiojcaaGreatDoorTie
import Derived.Test.YtbknconfeiojcaaGreatDoorM5
import Derived.Lib.LaidTab
import Derived.Lib.LaidU8
import Derived.Deep.DeepHandedRow
import Derived.Test.YtbknconfeiojcaaGreatDoorM4
import Derived.Test.YtbknconfeiojcaaGreatDoorM7
import Derived.Test.YtbknconfeiojcaaGreatDoorM16
import Derived.Carry
import Derived.SevenTiedAt
set_option linter.unusedSimpArgs false
set_option linter.unusedVariables false
set_option linter.unusedSectionVars false
set_option maxRecDepth 10000
set_option maxHeartbeats 1000000
/- Statements, closed: what is below the call's world stays, so the statement's last word holds. -/
namespace Go.Abs
open Go.RowKit Go.ChangeShapes Go.WideShapes Go.ChangeAt
variable {H : Type} {enc : TypeId × Value → H} {P : Program}
theorem wf_i64 {n : Int} (h : (Lit.int .i64 n).wf = true) : -9223372036854775808 ≤ n ∧ n ≤ 9223372036854775807 := by simpa [Lit.wf, IntKind.min, IntKind.max, IntKind.signed, IntKind.bits] using h
end Go.Abs

/- Layer 10's statements: what the listed tables give; a world for the witness. -/
namespace Go.Almanac
open Go.RowKit Go.Proofs Go.Abs Go.Proofs.YtbknconfeiojcaaGreatDoor
set_option maxRecDepth 100000
theorem own : ownKnob Tryz.prog.godebug = none := by kernel_rfl
theorem pow_data : (Rows.laid_internal_strconv_uint64pow10 : DataW Unit) = Lib.tabData .u64 Lib.pow10Tab := by kernel_rfl
theorem wf_of_laid {W : World} (h : laidMetH Tryz.prog [("math/bits.deBruijn32tab", Rows.laid_math_bits_deBruijn32tab), ("math/bits.deBruijn64tab", Rows.laid_math_bits_deBruijn64tab), ("internal/strconv.uint64pow10", Rows.laid_internal_strconv_uint64pow10)] W) : Wf W.heap.size W := by
  have h' : laidMet Tryz.prog [("math/bits.deBruijn32tab", Rows.laid_math_bits_deBruijn32tab), ("math/bits.deBruijn64tab", Rows.laid_math_bits_deBruijn64tab), ("internal/strconv.uint64pow10", Rows.laid_internal_strconv_uint64pow10)] W := h
  have hr := Lib.laidMet.reads h' (.tail _ (.tail _ (.head _)))
  rw [pow_data] at hr
  have ht : Lib.TabIs Tryz.prog W "internal/strconv.uint64pow10" .u64 Lib.pow10Tab := by
    obtain ⟨g, t, cs, fuel, p, hg, hty, hvar, hd⟩ := hr
    obtain rfl := Option.some.inj ((show Tryz.prog.globalNamed "internal/strconv.uint64pow10" = some 0 by kernel_rfl).symm.trans hg)
    obtain rfl := Option.some.inj ((show (Tryz.prog.globals[0]?).map (·.type) = some 142 by kernel_rfl).symm.trans hty)
    unfold Lib.TabIs
    rw [hvar, ← Lib.cells_of_tab (e := 39) (n := 20) (by kernel_rfl) (by kernel_rfl) (by kernel_rfl) (by kernel_rfl) hd]
  refine ⟨?_, ht⟩
  have hg : Tryz.prog.globalNamed "internal/strconv.uint64pow10" = some 0 := by kernel_rfl
  unfold Lib.TabIs World.var? at ht
  rw [hg] at ht
  simp only [Option.bind_some] at ht
  rcases Nat.lt_or_ge 0 W.heap.size with h2 | h2
  · exact h2
  · rw [Array.getElem?_eq_none h2] at ht; cases ht
def bruijn32 : List Int := [0, 1, 28, 2, 29, 14, 24, 3, 30, 22, 20, 15, 25, 17, 4, 8, 31, 27, 13, 23, 21, 19, 16, 7, 26, 12, 18, 6, 11, 5, 10, 9]
def bruijn64 : List Int := [0, 1, 56, 2, 57, 49, 28, 3, 61, 58, 42, 50, 38, 29, 17, 4, 62, 47, 59, 36, 45, 43, 51, 22, 53, 39, 33, 30, 24, 18, 12, 5, 63, 55, 48, 27, 60, 41, 37, 16, 46, 35, 44, 21, 52, 32, 23, 11, 54, 26, 40, 15, 34, 20, 31, 10, 25, 14, 19, 9, 13, 8, 7, 6]
noncomputable def laidWorld (os : Os) : World :=
  let w0 := World.holding Tryz.prog os ⟨#[], #[], []⟩
  let put (h : Array Obj) (g : Nat) (cs : Array Value) : Array Obj := h.modify g fun
    | .cells _ t frozen => .cells cs t frozen
    | o => o
  { w0 with heap := put (put (put w0.heap 0 (Lib.pow10Tab.map fun z => Value.int .u64 z).toArray) 2 (bruijn32.map fun z => Value.int .u8 z).toArray) 3 (bruijn64.map fun z => Value.int .u8 z).toArray }
theorem laid_met (os : Os) (args : Array Value) : laidMet Tryz.prog [("math/bits.deBruijn32tab", Rows.laid_math_bits_deBruijn32tab), ("math/bits.deBruijn64tab", Rows.laid_math_bits_deBruijn64tab), ("internal/strconv.uint64pow10", Rows.laid_internal_strconv_uint64pow10)] ((laidWorld os).forCall (fun _ _ => 0) ⟨#[], args, []⟩).memory := by
  exact laidMet_of_run' 8 (by kernel_rfl) (by kernel_rfl)
end Go.Almanac

/- Recurrence: arguments that are weekdays or rules, opened. -/
namespace Go.Almanac
open Go.RowKit Go.Proofs Go.Abs
theorem wf_intJ {n : Nat} {t : TypeId} {cs : List AV} (hu : Tryz.prog.underlying t = some (.int .i64)) (h : WfT Tryz.prog n t cs) : ∃ i : Int, cs = [.int .i64 i] ∧ -9223372036854775808 ≤ i ∧ i ≤ 9223372036854775807 := by
  cases n with
  | zero => exact h.elim
  | succ n =>
    rw [WfT, hu] at h
    obtain ⟨i, rfl, hw⟩ := h
    exact ⟨i, rfl, (wf_i64 hw).1, (wf_i64 hw).2⟩
def encW (x : Int × Int) : List AV := [.int .i64 x.1, .int .i64 x.2]
def BdW (x : Int × Int) : Prop := -9223372036854775808 ≤ x.1 ∧ x.1 ≤ 9223372036854775807
theorem wf_wday {n : Nat} {cs : List AV} (h : WfT Tryz.prog n 53 cs) : ∃ x, cs = encW x ∧ BdW x := by
  cases n with
  | zero => exact h.elim
  | succ n =>
    rw [WfT, Tryz.underlying53] at h
    obtain ⟨h0, h1⟩ := h
    have hl : cs.length = 2 := h0
    obtain ⟨a, b, rfl⟩ : ∃ a b, cs = [a, b] := by
      match cs, hl with
      | [a, b], _ => exact ⟨a, b, rfl⟩
    obtain ⟨i, e1, b1⟩ := wf_intJ (t := 3) Tryz.underlying3 (h1 0 _ rfl)
    obtain ⟨j, e2, b2⟩ := wf_intJ (t := 3) Tryz.underlying3 (h1 1 _ rfl)
    have e1' : [a] = [AV.int .i64 i] := e1
    have e2' : [b] = [AV.int .i64 j] := e2
    cases e1'; cases e2'
    exact ⟨(i, j), rfl, b1⟩
end Go.Almanac

/- Recurrence: an argument that is a rule, opened. -/
namespace Go.Almanac
open Go.RowKit Go.Proofs Go.Abs
theorem wf_boolJ {n : Nat} {t : TypeId} {cs : List AV} (hu : Tryz.prog.underlying t = some .bool) (h : WfT Tryz.prog n t cs) : ∃ b : Bool, cs = [.bool b] := by
  cases n with
  | zero => exact h.elim
  | succ n =>
    rw [WfT, hu] at h
    exact h
theorem list_imageJ {α β : Type} (g : β → α) : ∀ es : List α, (∀ x ∈ es, ∃ y, x = g y) → ∃ l : List β, es = l.map g
  | [], _ => ⟨[], rfl⟩
  | x :: es, h => by
    obtain ⟨y, rfl⟩ := h x (by simp)
    obtain ⟨l, rfl⟩ := list_imageJ g es fun z hz => h z (by simp [hz])
    exact ⟨y :: l, rfl⟩
theorem wf_intsJ {n : Nat} {cs : List AV} (h : WfT Tryz.prog n 24 cs) : ∃ l : List Int, cs = [.tree 1 (intsE l)] ∧ l.length ≤ 9223372036854775807 := by
  cases n with
  | zero => exact h.elim
  | succ n =>
    rw [WfT, Tryz.underlying24] at h
    obtain ⟨es, rfl, hl, hx⟩ := h
    obtain ⟨l, rfl⟩ := list_imageJ (fun n : Int => [AV.int .i64 n]) es fun x hm => by
      obtain ⟨i, e, _⟩ := wf_intJ (t := 3) Tryz.underlying3 (hx x hm)
      exact ⟨i, e⟩
    rw [List.length_map] at hl
    exact ⟨l, rfl, by simp only [maxLen] at hl; omega⟩
theorem wf_wdaysJ {n : Nat} {cs : List AV} (h : WfT Tryz.prog n 25 cs) : ∃ l : List (Int × Int), cs = [.tree 2 (wdsE l)] ∧ l.length ≤ 9223372036854775807 := by
  cases n with
  | zero => exact h.elim
  | succ n =>
    rw [WfT, Tryz.underlying25] at h
    obtain ⟨es, rfl, hl, hx⟩ := h
    obtain ⟨l, rfl⟩ := list_imageJ (fun d : Int × Int => [AV.int .i64 d.1, AV.int .i64 d.2]) es fun x hm => by
      obtain ⟨w, e, _⟩ := wf_wday (hx x hm)
      exact ⟨w, e⟩
    rw [List.length_map] at hl
    exact ⟨l, rfl, by simp only [maxLen] at hl; omega⟩
def BdR (R : RuleD) : Prop := (-9223372036854775808 ≤ R.secs ∧ R.secs ≤ 9223372036854775807) ∧ R.byMonth.length ≤ 9223372036854775807 ∧ R.byMonthDay.length ≤ 9223372036854775807 ∧ R.byDay.length ≤ 9223372036854775807 ∧ R.bySetPos.length ≤ 9223372036854775807
theorem wf_whenJ {n : Nat} {cs : List AV} (h : WfT Tryz.prog n 23 cs) : ∃ (i : Int) (u d : Bool), cs = [.int .i64 i, .bool u, .bool d] ∧ -9223372036854775808 ≤ i ∧ i ≤ 9223372036854775807 := by
  cases n with
  | zero => exact h.elim
  | succ n =>
    rw [WfT, Tryz.underlying23] at h
    obtain ⟨h0, h1⟩ := h
    have hl : cs.length = 3 := h0
    obtain ⟨a, b, c, rfl⟩ : ∃ a b c, cs = [a, b, c] := by
      match cs, hl with
      | [a, b, c], _ => exact ⟨a, b, c, rfl⟩
    obtain ⟨i, e1, b1⟩ := wf_intJ (t := 2) Tryz.underlying2 (h1 0 _ rfl)
    obtain ⟨u, e2⟩ := wf_boolJ (t := 4) Tryz.underlying4 (h1 1 _ rfl)
    obtain ⟨d, e3⟩ := wf_boolJ (t := 4) Tryz.underlying4 (h1 2 _ rfl)
    have e1' : [a] = [AV.int .i64 i] := e1
    have e2' : [b] = [AV.bool u] := e2
    have e3' : [c] = [AV.bool d] := e3
    cases e1'; cases e2'; cases e3'
    exact ⟨i, u, d, rfl, b1⟩
theorem wf_rule {n : Nat} {cs : List AV} (h : WfT Tryz.prog n 27 cs) : ∃ R, cs = encR R ∧ BdR R := by
  cases n with
  | zero => exact h.elim
  | succ n =>
    rw [WfT, Tryz.underlying27] at h
    obtain ⟨h0, h1⟩ := h
    have hl : cs.length = 12 := h0
    obtain ⟨c0, c1, c2, c3, c4, c5, c6, c7, c8, c9, c10, c11, rfl⟩ : ∃ c0 c1 c2 c3 c4 c5 c6 c7 c8 c9 c10 c11, cs = [c0, c1, c2, c3, c4, c5, c6, c7, c8, c9, c10, c11] := by
      match cs, hl with
      | [c0, c1, c2, c3, c4, c5, c6, c7, c8, c9, c10, c11], _ => exact ⟨c0, c1, c2, c3, c4, c5, c6, c7, c8, c9, c10, c11, rfl⟩
    obtain ⟨x0, e0, _⟩ := wf_intJ (t := 3) Tryz.underlying3 (h1 0 _ rfl)
    obtain ⟨x1, e1, _⟩ := wf_intJ (t := 3) Tryz.underlying3 (h1 1 _ rfl)
    obtain ⟨x2, e2, _⟩ := wf_intJ (t := 3) Tryz.underlying3 (h1 2 _ rfl)
    obtain ⟨x3, e3⟩ := wf_boolJ (t := 4) Tryz.underlying4 (h1 3 _ rfl)
    obtain ⟨x4, x5, x6, e4, b4⟩ := wf_whenJ (h1 4 _ rfl)
    obtain ⟨x7, e7, b7⟩ := wf_intsJ (h1 5 _ rfl)
    obtain ⟨x8, e8, b8⟩ := wf_intsJ (h1 6 _ rfl)
    obtain ⟨x9, e9, b9⟩ := wf_wdaysJ (h1 7 _ rfl)
    obtain ⟨x10, e10, b10⟩ := wf_intsJ (h1 8 _ rfl)
    obtain ⟨x11, e11, _⟩ := wf_intJ (t := 3) Tryz.underlying3 (h1 9 _ rfl)
    have e0' : [c0] = [AV.int .i64 x0] := e0
    have e1' : [c1] = [AV.int .i64 x1] := e1
    have e2' : [c2] = [AV.int .i64 x2] := e2
    have e3' : [c3] = [AV.bool x3] := e3
    have e4' : [c4, c5, c6] = [AV.int .i64 x4, AV.bool x5, AV.bool x6] := e4
    have e7' : [c7] = [AV.tree 1 (intsE x7)] := e7
    have e8' : [c8] = [AV.tree 1 (intsE x8)] := e8
    have e9' : [c9] = [AV.tree 2 (wdsE x9)] := e9
    have e10' : [c10] = [AV.tree 1 (intsE x10)] := e10
    have e11' : [c11] = [AV.int .i64 x11] := e11
    cases e0'; cases e1'; cases e2'; cases e3'; cases e4'; cases e7'; cases e8'; cases e9'; cases e10'; cases e11'
    exact ⟨⟨x0, x1, x2, x3, x4, x5, x6, x7, x8, x9, x10, x11⟩, rfl, b4, b7, b8, b9, b10⟩
theorem open_rule {H : Type} {enc : TypeId × Value → H} {W : World} {base : Nat} {v : Value} {d : DataW H} {ps : List MemPlace} (hval : Value.okWide Tryz.prog W .any base 27 v) (h : DataW.Trod enc Tryz.prog W 0 (fun _ => true) true 27 v d ps) :
    ∃ x : RuleD, VR (K.start W) (.agg (encR x)) v ∧ BdR x := by
  unfold Value.okWide at hval
  rw [Tryz.underlying27] at hval
  obtain ⟨cs, rfl, _, _⟩ := hval
  obtain ⟨fuel, hf⟩ := h
  obtain ⟨avs, h1, h2, h3, h4⟩ := open_any (by kernel_rfl) (by kernel_rfl) fuel 27 _ _ (of_decide_eq_true (by kernel_rfl)) hf
  obtain ⟨x, rfl, hb⟩ := wf_rule h3
  refine ⟨x, ?_, hb⟩
  simp only [VR]
  exact ⟨cs, rfl, h2⟩
end Go.Almanac

/- RecurSimple: a plain daily rule has one occurrence each day; one with Count has so many at most, none behind Last, and one with Until none behind that but its start; the listed tables tied to the text of the program. -/
namespace Go.Proofs.YtbknconfeiojcaaGreatDoor.recurSimple
open Go.ChangeShapes Go.WideShapes Go.ChangeAt Go.RowKit Go.Abs Go.Almanac
open Go.ChangeMaps (open_string shut_string)
theorem post_of_below2 {H : Type} {enc : TypeId × Value → H} {P : Program} {f : Func} {s : ChangeSpec} {apart fresh handsOn : Bool} {W W' : World} {args : Array Value} {v : Value} {ds gs : List (DataW H)} {before pa pv : List MemPlace}
    (hW : DataW.Whole enc P f.params.toList s.vars apart W args.toList ds gs before)
    (hres : ∀ (b : Nat) (sp : Nat → Bool) (hd : Bool), DataW.TrodAll enc P W' b sp hd f.resultTypes.toList (v.resultList f.resultTypes.size) (s.fn H (ds ++ gs)).results [])
    (hargs : DataW.TrodAll enc P W' 0 (fun b => decide (b < W.heap.size)) true f.params.toList args.toList (s.fn H (ds ++ gs)).args pa)
    (hvars : DataW.TrodVars enc P W' (fun b => decide (b < W.heap.size)) s.vars (s.fn H (ds ++ gs)).vars pv)
    (hb : Below W.heap.size W W') :
    s.post enc P f apart fresh handsOn false W args v W' :=
  ⟨ds, gs, before, [], pa, pv, hW, hres _ _ _, hargs, hvars, hb.frame _, fun h => by cases h⟩
theorem walk (n0 : Int) (hn0 : -9223372036854775808 ≤ n0 ∧ n0 ≤ 9223372036854775807) (n1 : Int) (hn1 : -9223372036854775808 ≤ n1 ∧ n1 ≤ 9223372036854775807) (X2 : RuleD) (v2 : Value) (hX2 : BdR X2) (W : World) (h2 : VR (K.start W) (.agg (encR X2)) v2) (hT : Wf W.heap.size W) :
    Calls Tryz.prog 4 #[.int .i64 n0, .int .i64 n1, v2] W fun e W' => e = .returned (.bool true) ∧ Below W.heap.size W W' := by
  refine law_calls (E := Ev fun _ => .fptr []) (fun g => glob_nil g) hT (l_RecurSimple _ X2 n0 n1 hn0.1 hn0.2 hn1.1 hn1.2 hX2.1.1 hX2.1.2 hX2.2.1 hX2.2.2.1 hX2.2.2.2.1 hX2.2.2.2.2 _) ?_
  simp only [VRs, VR] at h2 ⊢
  exact ⟨_, _, rfl, by simp, _, _, rfl, by simp, v2, _, rfl, h2, rfl⟩
set_option maxRecDepth 100000 in
theorem contract (H : Type) (enc : TypeId × Value → H) (W : World) (base : Nat) (args : Array Value) (ds gs : List (DataW H)) (before : List MemPlace)
    (hval : ∀ (j : Nat) t v, Tryz.f4.params[j]? = some t → args[j]? = some v → Value.okWide Tryz.prog W .any base t v)
    (hW : DataW.Whole enc Tryz.prog Tryz.f4.params.toList Rows.recurSimpleSpec.vars false W args.toList ds gs before)
    (hL : laidMetH Tryz.prog Rows.recurSimpleRow.laid W) :
    Calls Tryz.prog 4 args W fun e W' => ∃ v, e = .returned v ∧ Rows.recurSimpleSpec.post enc Tryz.prog Tryz.f4 false true false false W args v W' := by
  have hW' := hW
  have hlt := hW.lt
  obtain ⟨p, q, hA0, hV, rfl, hfz, hnd⟩ := hW
  have hA : DataW.TrodAll enc Tryz.prog W 0 (fun _ => true) true Tryz.f4.params.toList args.toList ds p := hA0
  rw [Tryz.params4] at hA hval
  obtain ⟨v0, vs0, d0, ds0, p0, q0, hargs, rfl, rfl, h0, r0⟩ := trodAll_cons hA
  obtain ⟨v1, vs1, d1, ds1, p1, q1, hargs1, rfl, rfl, h1, r1⟩ := trodAll_cons r0
  obtain ⟨v2, vs2, d2, ds2, p2, q2, hargs2, rfl, rfl, h2, r2⟩ := trodAll_cons r1
  obtain ⟨rfl, rfl, rfl⟩ := trodAll_nil r2
  subst hargs2
  subst hargs1
  obtain rfl : args = #[v0, v1, v2] := by cases args; simp_all
  obtain ⟨rfl, rfl⟩ := trodVars_none hV
  obtain ⟨n0, rfl, rfl, rfl, w0⟩ := open_int Tryz.underlying2 (hval 0 2 v0 rfl rfl) h0
  obtain ⟨n1, rfl, rfl, rfl, w1⟩ := open_int Tryz.underlying3 (hval 1 3 v1 rfl rfl) h1
  obtain ⟨X2, g2, b2⟩ := open_rule (hval 2 27 v2 rfl rfl) h2
  clear hA0
  simp only [List.append_nil] at hW' hlt
  refine (walk n0 (wf_i64 w0) n1 (wf_i64 w1) X2 v2 b2 W g2 (wf_of_laid hL)).mono fun e W' ⟨he, hg⟩ => ?_
  subst he
  have t2 := Below.trod (by kernel_rfl) (by kernel_rfl) (of_decide_eq_true (by kernel_rfl)) h2 hg (fun x hx => hlt x (by simp [hx]))
  exact ⟨_, rfl, post_of_below2 (pa := ([] ++ ([] ++ (p2 ++ [])))) (pv := []) hW' (fun _ _ _ => trodAll_cons_mk (shut_bool Tryz.underlying4 _) trodAll_mk0)
    (trodAll_cons_mk (shut_int Tryz.underlying2 w0) (trodAll_cons_mk (shut_int Tryz.underlying3 w1) (trodAll_cons_mk (t2) trodAll_mk0))) rfl hg⟩
theorem reads (os : Os) {H : Type} (enc : TypeId × Value → H) : ∃ places, DataW.whole enc Tryz.prog ((laidWorld os).forCall (fun _ _ => 0) ⟨#[], #[.int .i64 0, .int .i64 0, .agg #[.int .i64 0, .int .i64 0, .int .i64 0, .bool false, .int .i64 0, .bool false, .bool false, .slice none 0 0, .slice none 0 0, .slice none 0 0, .slice none 0 0, .int .i64 0]], []⟩).memory Tryz.f4.params.toList Rows.recurSimpleSpec.vars false #[Value.int .i64 0, Value.int .i64 0, Value.agg #[.int .i64 0, .int .i64 0, .int .i64 0, .bool false, .int .i64 0, .bool false, .bool false, .slice none 0 0, .slice none 0 0, .slice none 0 0, .slice none 0 0, .int .i64 0]].toList 8 = some ([.lit (.int .i64 0), .lit (.int .i64 0), .agg [.lit (.int .i64 0), .lit (.int .i64 0), .lit (.int .i64 0), .lit (.bool false), .agg [.lit (.int .i64 0), .lit (.bool false), .lit (.bool false)], .nil, .nil, .nil, .nil, .lit (.int .i64 0)]], [], places) :=
  ⟨[], by kernel_rfl⟩
set_option maxRecDepth 100000 in
theorem lifted (os : Os) (started : os.Started) (H : Type) (enc : TypeId × Value → H) (F : Stop.Interp) :
    ReturnsInHanded {} Tryz.checked os 4 .any ((OpenSpec.ofChange Rows.recurSimpleSpec).preRow enc Tryz.prog Tryz.f4 Rows.recurSimpleRow.domain false Rows.recurSimpleRow.laid) (((OpenSpec.ofChange Rows.recurSimpleSpec).at F).post enc Tryz.prog Tryz.f4 false true false false) := by
  obtain ⟨places, hx⟩ := reads os enc
  refine returnsInHanded_of_row (C := Tryz.checked) (s := OpenSpec.ofChange Rows.recurSimpleSpec) own started (by kernel_rfl) Tryz.func4
    (witness_row_at (enc := enc) (C := Tryz.checked) false (laidWorld os) #[.int .i64 0, .int .i64 0, .agg #[.int .i64 0, .int .i64 0, .int .i64 0, .bool false, .int .i64 0, .bool false, .bool false, .slice none 0 0, .slice none 0 0, .slice none 0 0, .slice none 0 0, .int .i64 0]] rfl (by kernel_rfl) (by kernel_rfl) (by kernel_rfl)
      (OpenSpec.preRow_of_cond 8 hx (by kernel_rfl) (fun k hk => by cases hk) (by kernel_rfl) (laid_met os _))) ?_
  intro W base args ds gs before hval hW _ hk _ hL hS _
  exact contract H enc W base args ds gs before hval hW hL
theorem said : Rows.RecurSimpleSaid :=
  OpenClaim.holds_of_cond 4 Tryz.f4 rfl rfl rfl rfl rfl rfl rfl ⟨rfl, rfl, rfl, rfl, rfl⟩ rfl rfl rfl rfl rfl (by kernel_rfl) Tryz.func4 (by kernel_rfl)
    (of_decide_eq_true (by kernel_rfl)) (by unfold Func.isWrapper; first | (rw [if_pos (by decide +kernel)]; kernel_rfl) | (rw [if_neg (by decide +kernel)]; exact ⟨rfl, rfl⟩))
    (fun os started H enc _ F => by rw [OpenClaim.pre_eq_preRow]; exact lifted os started H enc F)
theorem plain (f : FuncId) (fn : Func) (hf : Tryz.pinned.checked.prog.funcNamed "almanac/almanaclaw15.RecurSimple" = some f) (hfn : Tryz.pinned.checked.prog.funcs[f]? = some fn) :
    false = Tryz.pinned.checked.prog.looks [] ∧ ∀ (j : Nat) t, fn.params[j]? = some t → Tryz.pinned.checked.prog.wantsStandIn t = false := by
  obtain rfl : f = 4 := Option.some.inj ((show Tryz.prog.funcNamed "almanac/almanaclaw15.RecurSimple" = some 4 by kernel_rfl).symm.trans hf) |>.symm
  obtain rfl : fn = Tryz.f4 := (Option.some.inj (Tryz.func4.symm.trans hfn)).symm
  refine ⟨by kernel_rfl, fun j t ht => ?_⟩
  rw [Tryz.params4] at ht
  have hm : t ∈ [2, 3, 27] := by simpa using Array.mem_of_getElem? ht
  have hall : ([2, 3, 27].all fun u => !Tryz.prog.wantsStandIn u) = true := by kernel_rfl
  exact (show Tryz.prog.wantsStandIn t = false by simpa using List.all_eq_true.1 hall t hm)
theorem proved : Rows.RecurSimpleCardSaid :=
  Claim7.holds_tied_plain_at .later [] _ _ _ _ said (fun _ h => by cases h) (by kernel_rfl) (fun _ h => by cases h) recurSimple_row_tie rfl ⟨rfl, rfl⟩ (by kernel_rfl) rfl plain (by kernel_rfl)
end Go.Proofs.YtbknconfeiojcaaGreatDoor.recurSimple
