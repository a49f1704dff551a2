/- LineReads: the property of a text is the document's, for any text; the listed tables tied to the text of the program. -/
import Derived.Test.YtkkckfnkejijdaaDoorRows
import Derived.Test.YtkkckfnkejijdaaDoorM2
import Derived.WalkKit
import Derived.ProofKit
import Derived.OpenShut
import Derived.JoinedCond
import Derived.Test.YtkkckfnkejijdaaDoorCards
import Derived.Test.YtkkckfnkejijdaaDoorTie
import Derived.Test.YtkkckfnkejijdaaDoorM7
import Derived.Test.YtkkckfnkejijdaaDoorM5
import Derived.Lib.LaidTab
import Derived.Lib.LaidU8
import Derived.Shelf.Strings.Shaped
import Derived.Deep.DeepHandedRow
import Derived.Test.YtkkckfnkejijdaaDoorM11
import Derived.SevenTiedAt
/- Statements, closed: what is below the call's world stays, so the statement's last word holds. -/
namespace Go.Abs
open Go.RowKit Go.ChangeShapes Go.WideShapes Go.ChangeAt

variable {H : Type} {enc : TypeId × Value → H} {P : Program}

theorem post_of_below {f : Func} {s : ChangeSpec} {apart fresh handsOn : Bool} {W W' : World} {args : Array Value} {v : Value} {ds gs : List (DataW H)} {before pa pv : List MemPlace}
    (hW : DataW.Whole enc P f.params.toList s.vars apart W args.toList ds gs before)
    (hres : ∀ (b : Nat) (sp : Nat → Bool) (hd : Bool), DataW.TrodAll enc P W' b sp hd f.resultTypes.toList (v.resultList f.resultTypes.size) (s.fn H (ds ++ gs)).results [])
    (hargs : ∀ sp : Nat → Bool, (∀ p ∈ before, sp p.block = true) → DataW.TrodAll enc P W' 0 sp true f.params.toList args.toList (s.fn H (ds ++ gs)).args pa)
    (hvars : ∀ sp : Nat → Bool, (∀ p ∈ before, sp p.block = true) → DataW.TrodVars enc P W' sp s.vars (s.fn H (ds ++ gs)).vars pv)
    (hb : Below W.heap.size W W') :
    s.post enc P f apart fresh handsOn false W args v W' := by
  have hold : ∀ p ∈ before, (fun b => decide (b < W.heap.size)) p.block = true := fun p hp => by simpa using hW.lt p hp
  exact ⟨ds, gs, before, [], pa, pv, hW, hres _ _ _, hargs _ hold, hvars _ hold, hb.frame _, fun h => by cases h⟩

theorem str_eq (s : ByteArray) : Value.string ⟨s.data.toList.toArray⟩ = .string s := by simp

theorem wf_u64 {n : Int} (h : (Lit.int .u64 n).wf = true) : 0 ≤ n ∧ n ≤ 18446744073709551615 := by simpa [Lit.wf, IntKind.min, IntKind.max, IntKind.signed, IntKind.bits] using h
theorem wf_i64 {n : Int} (h : (Lit.int .i64 n).wf = true) : -9223372036854775808 ≤ n ∧ n ≤ 9223372036854775807 := by simpa [Lit.wf, IntKind.min, IntKind.max, IntKind.signed, IntKind.bits] using h
end Go.Abs

/- Layer 11's statements: what the listed tables give; a world for the witness. -/
namespace Go.Almanac
open Go.RowKit Go.Proofs Go.Abs Go.Proofs.YtkkckfnkejijdaaDoor

set_option maxRecDepth 100000

theorem own : ownKnob Tryd.prog.godebug = none := by kernel_rfl

theorem accept_data : (Rows.laid_unicode_utf8_acceptRanges : DataW Unit) = Lib.acceptData := by kernel_rfl
theorem first_data : Rows.laid_unicode_utf8_first = Lib.firstData := by kernel_rfl

/-- What the row's list gives. -/
theorem tabs {W : World} (h : laidMetH Tryd.prog [("unicode/utf8.acceptRanges", Rows.laid_unicode_utf8_acceptRanges), ("unicode/utf8.first", Rows.laid_unicode_utf8_first)] W) : Lib.Utf8Tabs 0 1 W := by
  have h' : laidMet Tryd.prog [("unicode/utf8.acceptRanges", Rows.laid_unicode_utf8_acceptRanges), ("unicode/utf8.first", Rows.laid_unicode_utf8_first)] W := h
  rw [accept_data, first_data] at h'
  exact utf8Tabs_of_reads (ρ := Tryd.lays260_ren) Tryd.lays260 ⟨by kernel_rfl, by kernel_rfl, by kernel_rfl, by kernel_rfl, by kernel_rfl, by kernel_rfl, by kernel_rfl⟩ (Lib.laidMet.reads h' (.tail _ (.head _))) (Lib.laidMet.reads h' (.head _))

theorem maxlen {W : World} (h : W.ShapedOpen Tryd.prog) : ∃ m, W.cell? ⟨2, 0, none⟩ = some (.int .i64 m) :=
  Go.Proofs.cell_of_shapedOpen_int (zero := #[.int .i64 0]) (t := 3) h (of_decide_eq_true (by kernel_rfl)) (by kernel_rfl) rfl (by kernel_rfl) (by kernel_rfl) Tryd.underlying3

theorem glob {W : World} {m : Int} (hT : Lib.Utf8Tabs 0 1 W) (hm : W.cell? ⟨2, 0, none⟩ = some (.int .i64 m)) : ∀ g, VR (K.start W) ((Ev (Gt m)).G g) (.pointer (some ⟨g, 0, none⟩)) := by
  intro g
  match g with
  | 0 =>
    refine glob_cells fun j c hc => ?_
    have hj : j < 256 := by
      rcases Nat.lt_or_ge j 256 with h | h
      · exact h
      · rw [firsts, List.getElem?_map, List.getElem?_eq_none (by simpa using h)] at hc; cases hc
    rw [firsts, List.getElem?_map, List.getElem?_range hj] at hc
    cases hc
    exact ⟨_, hT.1 j hj, fun κ => by simp [VR]⟩
  | 1 =>
    refine glob_cells fun j c hc => ?_
    have hj : j < 32 := by
      rcases Nat.lt_or_ge j 32 with h | h
      · exact h
      · rw [accepts, List.getElem?_map, List.getElem?_eq_none (by simpa using h)] at hc; cases hc
    rw [accepts, List.getElem?_map, List.getElem?_range hj] at hc
    cases hc
    obtain ⟨h1, h2⟩ := hT.2 (j / 2) (by omega)
    dsimp only
    by_cases hp : j % 2 = 0
    · rw [if_pos hp]
      exact ⟨_, by rw [show 2 * (j / 2) = j from by omega] at h1; exact h1, fun κ => by simp [VR]⟩
    · rw [if_neg hp]
      exact ⟨_, by rw [show 2 * (j / 2) + 1 = j from by omega] at h2; exact h2, fun κ => by simp [VR]⟩
  | 2 =>
    refine glob_cells fun j c hc => ?_
    match j, hc with
    | 0, hc => cases hc; exact ⟨_, hm, fun κ => by simp [VR]⟩
    | j + 1, hc => simp at hc
  | g + 3 => exact glob_nil (g + 3)

/-- The witness's world: the settled one, the two tables holding what their initialisers lay. -/
noncomputable def laidWorld (os : Os) : World :=
  let w0 := World.holding Tryd.prog os ⟨#[], #[], []⟩
  let put (h : Array Obj) (g : Nat) (cs : Array Value) : Array Obj := h.modify g fun
    | .cells _ t frozen => .cells cs t frozen
    | o => o
  { w0 with heap := put (put w0.heap 0 (Lib.firstTab.map fun z => Value.int .u8 z).toArray) 1 ((List.range 16).flatMap fun i => [Value.int .u8 (Lib.accLo i), Value.int .u8 (Lib.accHi i)]).toArray }
theorem laid_met (os : Os) (args : Array Value) : laidMet Tryd.prog [("unicode/utf8.acceptRanges", Rows.laid_unicode_utf8_acceptRanges), ("unicode/utf8.first", Rows.laid_unicode_utf8_first)] ((laidWorld os).forCall (fun _ _ => 0) ⟨#[], args, []⟩).memory := by
  exact laidMet_of_run' 8 (by kernel_rfl) (by kernel_rfl)
end Go.Almanac

/- Lines: awake. -/
/-AUTO-/
namespace Go.Almanac
open Go.RowKit Go.Proofs Go.Abs

set_option linter.unusedSimpArgs false
set_option linter.unusedVariables false
set_option linter.unusedSectionVars false
set_option maxRecDepth 10000

theorem r_TextsA (G : Nat → AV) (x y : List (List UInt8)) (hx : x.length ≤ 4611686018427387904) (hy : y.length ≤ 4611686018427387904) (it : Nat) (st : St) (hit : st it = some (.cells 9 0 1 (strsE y))) :
    ACalls (Ev G) 20 [.tree 1 (strsE x), .arr it 0 1 0 y.length] st (fun e st' => st' = st ∧ e = .ret (.bool (decide (x = y)))) := by
  refine ACalls.of_body Tryd.func20 rfl ?_
  rw [Tryd.ntmps20]
  simp only [List.length_cons, List.length_nil, Nat.reduceAdd, Nat.reduceSub, List.replicate_succ, List.replicate_zero, List.cons_append, List.nil_append]
  (repeat' (first | refine AW.seq ?_ | refine AW.scope ?_ | refine AW.label ?_ | refine AW.block ?_ | refine AW.skip ?_ | refine AW.exit ?_ | refine AW.ret ?_ | (refine AW.regionC fun Q' Kn hQ hK hK' => ?_; simp (disch := omega) only [go_sem, redN, Nat.reduceAdd, Int.reduceToNat, Nat.min_eq_left, Int.reducePow]; (try simp (disch := omega) only [go_sem, redN, Nat.reduceAdd, Int.reduceToNat, Nat.min_eq_left, Int.reducePow]); (repeat' refine And.intro ?_ ?_); (try any_goals (first | (refine hK _ _ ?_; clear hK' hQ hK Q' Kn) | (intro hq9; refine ⟨hq9, ?_⟩; simp only [redB] at hq9; omega) | (intro hq9; refine ⟨hq9, fun hq8 => ?_⟩; rw [hq9, hq8]; rfl) | (simp; done) | omega | (simp only [List.length_append, List.length_cons, List.length_nil]; omega) | (simp; omega) | (intros; (repeat' refine And.intro ?_ ?_) <;> (first | assumption | omega | (simp; done)))))) | (refine AW.cond (by simp (disch := omega) only [go_sem, redN, Nat.reduceAdd, Int.reduceToNat, Nat.min_eq_left, Int.reducePow]; rfl) (fun hb => ?_) (fun hb => ?_) <;> (try simp only [redB, Bool.true_eq_false, Bool.false_eq_true] at hb))))
  · (refine ⟨_, _, rfl, by simp, ?_⟩; simp only [aTup, AA.get, List.getD_cons_zero, List.getD_cons_succ, true_and])
    rw [decide_eq_false]
    intro e; subst e; simp at hb
  have hl : x.length = y.length := by omega
  refine AW.loopF (fun k : Nat => [.tree 1 (strsE x), .arr it 0 1 0 y.length, .junk, .junk, .junk, .int .i64 k, .junk, .junk, .junk, .junk, .junk, .junk, .junk, .junk, .junk, .junk, .junk, .junk, .junk, .junk, .junk, .junk, .junk, .junk, .junk, .junk]) (fun _ => st)
    (fun k => k ≤ x.length ∧ x.take k = y.take k) (fun k => x.length - k) 0 ?_ rfl ?_ ?_
  · (repeat (first | exact Weak.nil | refine Weak.junk _ ?_ | refine Weak.same _ ?_ | refine Weak.eqv (by (congr 1; first | omega | (simp; done) | exact w_i64 (by omega) (by omega))) ?_))
  · simp
  rintro k ⟨k1, k2⟩
  (repeat' (first | refine AW.seq ?_ | refine AW.scope ?_ | refine AW.label ?_ | refine AW.block ?_ | refine AW.skip ?_ | refine AW.exit ?_ | refine AW.ret ?_ | (refine AW.regionC fun Q' Kn hQ hK hK' => ?_; simp (disch := omega) only [go_sem, redN, Nat.reduceAdd, Int.reduceToNat, Nat.min_eq_left, Int.reducePow]; (try simp (disch := omega) only [go_sem, redN, Nat.reduceAdd, Int.reduceToNat, Nat.min_eq_left, Int.reducePow]); (repeat' refine And.intro ?_ ?_); (try any_goals (first | (refine hK _ _ ?_; clear hK' hQ hK Q' Kn) | (intro hq9; refine ⟨hq9, ?_⟩; simp only [redB] at hq9; omega) | (intro hq9; refine ⟨hq9, fun hq8 => ?_⟩; rw [hq9, hq8]; rfl) | (simp; done) | omega | (simp only [List.length_append, List.length_cons, List.length_nil]; omega) | (simp; omega) | (intros; (repeat' refine And.intro ?_ ?_) <;> (first | assumption | omega | (simp; done)))))) | (refine AW.cond (by simp (disch := omega) only [go_sem, redN, Nat.reduceAdd, Int.reduceToNat, Nat.min_eq_left, Int.reducePow]; rfl) (fun hb => ?_) (fun hb => ?_) <;> (try simp only [redB, Bool.true_eq_false, Bool.false_eq_true] at hb))))
  · have hk : k < y.length := by omega
    refine AW.drawn (List.range 9) (by decide +kernel) fun Q' Kn hQ hK hK' => ?_
    refine FxC_ok _ _ _ ?_; simp (disch := omega) only [go_sem, redN, Nat.reduceAdd, Int.reduceToNat, Nat.min_eq_left, Int.reducePow]; (try simp (disch := omega) only [go_sem, redN, Nat.reduceAdd, Int.reduceToNat, Nat.min_eq_left, Int.reducePow]); (repeat' refine And.intro ?_ ?_); (try any_goals (first | (refine hK _ _ ?_; clear hK' hQ hK Q' Kn) | (intro hq9; refine ⟨hq9, ?_⟩; simp only [redB] at hq9; omega) | (intro hq9; refine ⟨hq9, fun hq8 => ?_⟩; rw [hq9, hq8]; rfl) | (simp; done) | omega | (simp only [List.length_append, List.length_cons, List.length_nil]; omega) | (simp; omega) | (intros; (repeat' refine And.intro ?_ ?_) <;> (first | assumption | omega | (simp; done)))))
    refine ⟨_, Fixed.loadCell rfl rfl rfl (by (first | (simp only [go_sem]; done) | (simp only [go_sem]; rfl))) (by simp [go_sem]) hit rfl (by simp; omega) (by simp), ?_⟩
    rw [Nat.zero_add, strsE_getD hk]
    simp only [List.getD_cons_zero]
    refine FxC_ok _ _ _ ?_; simp (disch := omega) only [go_sem, redN, Nat.reduceAdd, Int.reduceToNat, Nat.min_eq_left, Int.reducePow]; (try simp (disch := omega) only [go_sem, redN, Nat.reduceAdd, Int.reduceToNat, Nat.min_eq_left, Int.reducePow]); (repeat' refine And.intro ?_ ?_); (try any_goals (first | (refine hK _ _ ?_; clear hK' hQ hK Q' Kn) | (intro hq9; refine ⟨hq9, ?_⟩; simp only [redB] at hq9; omega) | (intro hq9; refine ⟨hq9, fun hq8 => ?_⟩; rw [hq9, hq8]; rfl) | (simp; done) | omega | (simp only [List.length_append, List.length_cons, List.length_nil]; omega) | (simp; omega) | (intros; (repeat' refine And.intro ?_ ?_) <;> (first | assumption | omega | (simp; done)))))
    (repeat' (first | refine AW.seq ?_ | refine AW.scope ?_ | refine AW.label ?_ | refine AW.block ?_ | refine AW.skip ?_ | refine AW.exit ?_ | refine AW.ret ?_ | (refine AW.regionC fun Q' Kn hQ hK hK' => ?_; simp (disch := omega) only [go_sem, redN, Nat.reduceAdd, Int.reduceToNat, Nat.min_eq_left, Int.reducePow]; (try simp (disch := omega) only [go_sem, redN, Nat.reduceAdd, Int.reduceToNat, Nat.min_eq_left, Int.reducePow]); (repeat' refine And.intro ?_ ?_); (try any_goals (first | (refine hK _ _ ?_; clear hK' hQ hK Q' Kn) | (intro hq9; refine ⟨hq9, ?_⟩; simp only [redB] at hq9; omega) | (intro hq9; refine ⟨hq9, fun hq8 => ?_⟩; rw [hq9, hq8]; rfl) | (simp; done) | omega | (simp only [List.length_append, List.length_cons, List.length_nil]; omega) | (simp; omega) | (intros; (repeat' refine And.intro ?_ ?_) <;> (first | assumption | omega | (simp; done)))))) | (refine AW.cond (by simp (disch := omega) only [go_sem, redN, Nat.reduceAdd, Int.reduceToNat, Nat.min_eq_left, Int.reducePow]; rfl) (fun hb => ?_) (fun hb => ?_) <;> (try simp only [redB, Bool.true_eq_false, Bool.false_eq_true] at hb))))
    · (refine ⟨_, _, rfl, by simp, ?_⟩; simp only [aTup, AA.get, List.getD_cons_zero, List.getD_cons_succ, true_and])
      rw [decide_eq_false]
      intro e; subst e; simp at hb
    · refine ⟨k + 1, ⟨by omega, take_step [] (by omega) (by omega) k2 hb⟩, by omega, ?_, rfl, rfl⟩
      (repeat (first | exact Weak.nil | refine Weak.junk _ ?_ | refine Weak.same _ ?_ | refine Weak.eqv (by (congr 1; first | omega | (simp; done) | exact w_i64 (by omega) (by omega))) ?_))
  · (refine ⟨_, _, rfl, by simp, ?_⟩; simp only [aTup, AA.get, List.getD_cons_zero, List.getD_cons_succ, true_and])
    rw [decide_eq_true]
    exact take_eq_of hl k2 (by omega)

def propA : PropD := ⟨[68, 84, 83, 84, 65, 82, 84], [⟨[84, 90, 73, 68], [[97, 58, 98]]⟩], [50, 48, 50, 53, 48, 49, 48, 49]⟩
theorem aw1 : parseL [100, 116, 115, 116, 97, 114, 116, 59, 116, 122, 105, 100, 61, 34, 97, 58, 98, 34, 58, 50, 48, 50, 53, 48, 49, 48, 49] = .ok propA := by kernel_rfl
theorem aw2 : parseL [97] = .error 11 := by kernel_rfl
theorem aw3 : parseL [97, 32, 98, 58] = .error 10 := by kernel_rfl
theorem aw4 : unfoldT [65, 58, 98, 13, 10, 32, 99, 10, 68, 58, 101] = .ok [[65, 58, 98, 99], [68, 58, 101]] := by kernel_rfl
theorem aw5 : unfoldT [32, 97] = .error 10 := by kernel_rfl
theorem aw6 : paramV propA [84, 90, 73, 68] = ([97, 58, 98], true) := by kernel_rfl
theorem aw7 : printL propA = [68, 84, 83, 84, 65, 82, 84, 59, 84, 90, 73, 68, 61, 34, 97, 58, 98, 34, 58, 50, 48, 50, 53, 48, 49, 48, 49] := by kernel_rfl
theorem propA_ok : PropOk propA := ⟨by decide, by intro x hx; simp [propA] at hx; subst hx; decide⟩
theorem propA_B : PropB propA := ⟨by decide, by decide, by decide, by intro x hx; simp [propA] at hx; subst hx; exact ⟨by decide, by decide, by intro v hv; simp at hv; subst hv; decide⟩, by decide +kernel⟩
theorem propA_CA (G : Nat → AV) : CAs G propA := by
  intro x hx v hv _
  simp [propA] at hx; subst hx
  simp at hv; subst hv
  exact CA_ascii G _ _ (by decide) (by decide) (by decide) (by decide)
end Go.Almanac

/- Lines: awake answers true; the law of reading. -/
/-AUTO-/
namespace Go.Almanac
open Go.RowKit Go.Proofs Go.Abs

set_option linter.unusedSimpArgs false
set_option linter.unusedVariables false
set_option linter.unusedSectionVars false
set_option maxRecDepth 10000

set_option maxHeartbeats 4000000 in
theorem l_awake (m : Int) (st : St) : ACalls (Ev (Gt m)) 9 [] st (fun e st' => st' = st ∧ e = .ret (.bool true)) := by
  refine ACalls.thaw (R' := fun e st' => st.sub st' ∧ e = .ret (.bool true)) ?_ (fun x st1 h => ⟨2, st, h.1, rfl, by rw [h.2]; rfl⟩)
  refine ACalls.of_body Tryd.func9 rfl ?_
  rw [Tryd.ntmps9]
  simp only [List.length_cons, List.length_nil, Nat.reduceAdd, Nat.reduceSub, List.replicate_succ, List.replicate_zero, List.cons_append, List.nil_append]
  (repeat' (first | refine AW.seq ?_ | refine AW.scope ?_ | refine AW.label ?_ | refine AW.block ?_ | refine AW.skip ?_ | refine AW.exit ?_ | refine AW.ret ?_))
  (refine AW.regionC fun Q' Kn hQ hK hK' => ?_; simp (disch := omega) only [go_sem, redN, Nat.reduceAdd, Int.reduceToNat, Nat.min_eq_left, Int.reducePow]; (try simp (disch := omega) only [go_sem, redN, Nat.reduceAdd, Int.reduceToNat, Nat.min_eq_left, Int.reducePow]); (repeat' refine And.intro ?_ ?_); (try any_goals (first | (refine hK _ _ ?_; clear hK' hQ hK Q' Kn) | (intro hq9; refine ⟨hq9, ?_⟩; simp only [redB] at hq9; omega) | (intro hq9; refine ⟨hq9, fun hq8 => ?_⟩; rw [hq9, hq8]; rfl) | (simp; done) | omega | (simp only [List.length_append, List.length_cons, List.length_nil]; omega) | (simp; omega) | (intros; (repeat' refine And.intro ?_ ?_) <;> (first | assumption | omega | (simp; done))))))
  (repeat' (first | refine AW.seq ?_ | refine AW.scope ?_ | refine AW.label ?_ | refine AW.block ?_ | refine AW.skip ?_ | refine AW.exit ?_ | refine AW.ret ?_))
  (refine AW.regionC fun Q' Kn hQ hK hK' => ?_; simp (disch := omega) only [go_sem, redN, Nat.reduceAdd, Int.reduceToNat, Nat.min_eq_left, Int.reducePow]; (try simp (disch := omega) only [go_sem, redN, Nat.reduceAdd, Int.reduceToNat, Nat.min_eq_left, Int.reducePow]); (repeat' refine And.intro ?_ ?_); (try any_goals (first | (refine hK _ _ ?_; clear hK' hQ hK Q' Kn) | (intro hq9; refine ⟨hq9, ?_⟩; simp only [redB] at hq9; omega) | (intro hq9; refine ⟨hq9, fun hq8 => ?_⟩; rw [hq9, hq8]; rfl) | (simp; done) | omega | (simp only [List.length_append, List.length_cons, List.length_nil]; omega) | (simp; omega) | (intros; (repeat' refine And.intro ?_ ?_) <;> (first | assumption | omega | (simp; done))))))
  refine AOp.call rfl (by simp only [go_sem]; rfl) (by simp [go_sem]) rfl (ACalls.mono (by simp only [go_sem]; exact t_Parse m _ (by simp) _) ?_)
  rintro e st' ⟨rfl, rfl⟩
  rw [aw1, parseR]
  simp only [encProp]
  (refine AOpsC_ok hK' _ _ _ ?_; simp (disch := omega) only [go_sem, redN, Nat.reduceAdd, Int.reduceToNat, Nat.min_eq_left, Int.reducePow]; (try simp (disch := omega) only [go_sem, redN, Nat.reduceAdd, Int.reduceToNat, Nat.min_eq_left, Int.reducePow]); (repeat' refine And.intro ?_ ?_); (try any_goals (first | (refine hK _ _ ?_; clear hK' hQ hK Q' Kn) | (intro hq9; refine ⟨hq9, ?_⟩; simp only [redB] at hq9; omega) | (intro hq9; refine ⟨hq9, fun hq8 => ?_⟩; rw [hq9, hq8]; rfl) | (simp; done) | omega | (simp only [List.length_append, List.length_cons, List.length_nil]; omega) | (simp; omega) | (intros; (repeat' refine And.intro ?_ ?_) <;> (first | assumption | omega | (simp; done))))))
  refine AOp.alloc rfl (by simp only [go_sem]; rfl) fun b1 h1 => ?_
  (refine AOpsC_ok hK' _ _ _ ?_; simp (disch := omega) only [go_sem, redN, Nat.reduceAdd, Int.reduceToNat, Nat.min_eq_left, Int.reducePow]; (try simp (disch := omega) only [go_sem, redN, Nat.reduceAdd, Int.reduceToNat, Nat.min_eq_left, Int.reducePow]); (repeat' refine And.intro ?_ ?_); (try any_goals (first | (refine hK _ _ ?_; clear hK' hQ hK Q' Kn) | (intro hq9; refine ⟨hq9, ?_⟩; simp only [redB] at hq9; omega) | (intro hq9; refine ⟨hq9, fun hq8 => ?_⟩; rw [hq9, hq8]; rfl) | (simp; done) | omega | (simp only [List.length_append, List.length_cons, List.length_nil]; omega) | (simp; omega) | (intros; (repeat' refine And.intro ?_ ?_) <;> (first | assumption | omega | (simp; done))))))
  refine AOp.storeAll (cs := [.str propA.name, .tree 2 (paramsE propA.params), .str propA.value]) rfl (by (first | (simp only [go_sem]; done) | (simp only [go_sem]; rfl))) (by simp [go_sem]) (St.set_same _ _ _) (by first | (simp only [go_sem]; done) | (simp [go_sem]; done) | (simp [go_sem]; omega)) (by simp [go_sem, isCell]) rfl rfl rfl ?_
  (refine AOpsC_ok hK' _ _ _ ?_; simp (disch := omega) only [go_sem, redN, Nat.reduceAdd, Int.reduceToNat, Nat.min_eq_left, Int.reducePow]; (try simp (disch := omega) only [go_sem, redN, Nat.reduceAdd, Int.reduceToNat, Nat.min_eq_left, Int.reducePow]); (repeat' refine And.intro ?_ ?_); (try any_goals (first | (refine hK _ _ ?_; clear hK' hQ hK Q' Kn) | (intro hq9; refine ⟨hq9, ?_⟩; simp only [redB] at hq9; omega) | (intro hq9; refine ⟨hq9, fun hq8 => ?_⟩; rw [hq9, hq8]; rfl) | (simp; done) | omega | (simp only [List.length_append, List.length_cons, List.length_nil]; omega) | (simp; omega) | (intros; (repeat' refine And.intro ?_ ?_) <;> (first | assumption | omega | (simp; done))))))
  rw [St.set_set]
  (repeat' (first | refine AW.seq ?_ | refine AW.scope ?_ | refine AW.label ?_ | refine AW.block ?_ | refine AW.skip ?_ | refine AW.exit ?_ | refine AW.ret ?_))
  refine AW.freeze 1 rfl (St.set_same _ _ _) ?_
  rw [St.del_set _ _ h1]
  (repeat' (first | refine AW.seq ?_ | refine AW.scope ?_ | refine AW.label ?_ | refine AW.block ?_ | refine AW.skip ?_ | refine AW.exit ?_ | refine AW.ret ?_))
  (refine AW.regionC fun Q' Kn hQ hK hK' => ?_; simp (disch := omega) only [go_sem, redN, Nat.reduceAdd, Int.reduceToNat, Nat.min_eq_left, Int.reducePow]; (try simp (disch := omega) only [go_sem, redN, Nat.reduceAdd, Int.reduceToNat, Nat.min_eq_left, Int.reducePow]); (repeat' refine And.intro ?_ ?_); (try any_goals (first | (refine hK _ _ ?_; clear hK' hQ hK Q' Kn) | (intro hq9; refine ⟨hq9, ?_⟩; simp only [redB] at hq9; omega) | (intro hq9; refine ⟨hq9, fun hq8 => ?_⟩; rw [hq9, hq8]; rfl) | (simp; done) | omega | (simp only [List.length_append, List.length_cons, List.length_nil]; omega) | (simp; omega) | (intros; (repeat' refine And.intro ?_ ?_) <;> (first | assumption | omega | (simp; done))))))
  refine AOp.call rfl (by simp only [go_sem]; rfl) (by simp [go_sem]) rfl (ACalls.mono (by simp only [go_sem]; exact t_Param (Gt m) propA [84, 90, 73, 68] propA_ok _) ?_)
  rintro e st' ⟨rfl, rfl⟩
  rw [aw6]
  (refine AOpsC_ok hK' _ _ _ ?_; simp (disch := omega) only [go_sem, redN, Nat.reduceAdd, Int.reduceToNat, Nat.min_eq_left, Int.reducePow]; (try simp (disch := omega) only [go_sem, redN, Nat.reduceAdd, Int.reduceToNat, Nat.min_eq_left, Int.reducePow]); (repeat' refine And.intro ?_ ?_); (try any_goals (first | (refine hK _ _ ?_; clear hK' hQ hK Q' Kn) | (intro hq9; refine ⟨hq9, ?_⟩; simp only [redB] at hq9; omega) | (intro hq9; refine ⟨hq9, fun hq8 => ?_⟩; rw [hq9, hq8]; rfl) | (simp; done) | omega | (simp only [List.length_append, List.length_cons, List.length_nil]; omega) | (simp; omega) | (intros; (repeat' refine And.intro ?_ ?_) <;> (first | assumption | omega | (simp; done))))))
  (repeat' (first | refine AW.seq ?_ | refine AW.scope ?_ | refine AW.label ?_ | refine AW.block ?_ | refine AW.skip ?_ | refine AW.exit ?_ | refine AW.ret ?_))
  (refine AW.regionC fun Q' Kn hQ hK hK' => ?_; simp (disch := omega) only [go_sem, redN, Nat.reduceAdd, Int.reduceToNat, Nat.min_eq_left, Int.reducePow]; (try simp (disch := omega) only [go_sem, redN, Nat.reduceAdd, Int.reduceToNat, Nat.min_eq_left, Int.reducePow]); (repeat' refine And.intro ?_ ?_); (try any_goals (first | (refine hK _ _ ?_; clear hK' hQ hK Q' Kn) | (intro hq9; refine ⟨hq9, ?_⟩; simp only [redB] at hq9; omega) | (intro hq9; refine ⟨hq9, fun hq8 => ?_⟩; rw [hq9, hq8]; rfl) | (simp; done) | omega | (simp only [List.length_append, List.length_cons, List.length_nil]; omega) | (simp; omega) | (intros; (repeat' refine And.intro ?_ ?_) <;> (first | assumption | omega | (simp; done))))))
  refine AOp.call rfl (by simp only [go_sem]; rfl) (by simp [go_sem]) rfl (ACalls.mono (by simp only [go_sem]; exact t_Parse m _ (by simp) _) ?_)
  rintro e st' ⟨rfl, rfl⟩
  rw [aw2, parseR]
  simp only [encProp]
  (refine AOpsC_ok hK' _ _ _ ?_; simp (disch := omega) only [go_sem, redN, Nat.reduceAdd, Int.reduceToNat, Nat.min_eq_left, Int.reducePow]; (try simp (disch := omega) only [go_sem, redN, Nat.reduceAdd, Int.reduceToNat, Nat.min_eq_left, Int.reducePow]); (repeat' refine And.intro ?_ ?_); (try any_goals (first | (refine hK _ _ ?_; clear hK' hQ hK Q' Kn) | (intro hq9; refine ⟨hq9, ?_⟩; simp only [redB] at hq9; omega) | (intro hq9; refine ⟨hq9, fun hq8 => ?_⟩; rw [hq9, hq8]; rfl) | (simp; done) | omega | (simp only [List.length_append, List.length_cons, List.length_nil]; omega) | (simp; omega) | (intros; (repeat' refine And.intro ?_ ?_) <;> (first | assumption | omega | (simp; done))))))
  refine AOp.alloc rfl (by simp only [go_sem]; rfl) fun b5 h5 => ?_
  (refine AOpsC_ok hK' _ _ _ ?_; simp (disch := omega) only [go_sem, redN, Nat.reduceAdd, Int.reduceToNat, Nat.min_eq_left, Int.reducePow]; (try simp (disch := omega) only [go_sem, redN, Nat.reduceAdd, Int.reduceToNat, Nat.min_eq_left, Int.reducePow]); (repeat' refine And.intro ?_ ?_); (try any_goals (first | (refine hK _ _ ?_; clear hK' hQ hK Q' Kn) | (intro hq9; refine ⟨hq9, ?_⟩; simp only [redB] at hq9; omega) | (intro hq9; refine ⟨hq9, fun hq8 => ?_⟩; rw [hq9, hq8]; rfl) | (simp; done) | omega | (simp only [List.length_append, List.length_cons, List.length_nil]; omega) | (simp; omega) | (intros; (repeat' refine And.intro ?_ ?_) <;> (first | assumption | omega | (simp; done))))))
  refine AOp.storeAll (cs := [.str (⟨[], [], []⟩ : PropD).name, .tree 2 (paramsE (⟨[], [], []⟩ : PropD).params), .str (⟨[], [], []⟩ : PropD).value]) rfl (by (first | (simp only [go_sem]; done) | (simp only [go_sem]; rfl))) (by simp [go_sem]) (St.set_same _ _ _) (by first | (simp only [go_sem]; done) | (simp [go_sem]; done) | (simp [go_sem]; omega)) (by simp [go_sem, isCell]) rfl rfl rfl ?_
  (refine AOpsC_ok hK' _ _ _ ?_; simp (disch := omega) only [go_sem, redN, Nat.reduceAdd, Int.reduceToNat, Nat.min_eq_left, Int.reducePow]; (try simp (disch := omega) only [go_sem, redN, Nat.reduceAdd, Int.reduceToNat, Nat.min_eq_left, Int.reducePow]); (repeat' refine And.intro ?_ ?_); (try any_goals (first | (refine hK _ _ ?_; clear hK' hQ hK Q' Kn) | (intro hq9; refine ⟨hq9, ?_⟩; simp only [redB] at hq9; omega) | (intro hq9; refine ⟨hq9, fun hq8 => ?_⟩; rw [hq9, hq8]; rfl) | (simp; done) | omega | (simp only [List.length_append, List.length_cons, List.length_nil]; omega) | (simp; omega) | (intros; (repeat' refine And.intro ?_ ?_) <;> (first | assumption | omega | (simp; done))))))
  rw [St.set_set]
  (repeat' (first | refine AW.seq ?_ | refine AW.scope ?_ | refine AW.label ?_ | refine AW.block ?_ | refine AW.skip ?_ | refine AW.exit ?_ | refine AW.ret ?_))
  refine AW.freeze 5 rfl (St.set_same _ _ _) ?_
  rw [St.del_set _ _ h5]
  (repeat' (first | refine AW.seq ?_ | refine AW.scope ?_ | refine AW.label ?_ | refine AW.block ?_ | refine AW.skip ?_ | refine AW.exit ?_ | refine AW.ret ?_))
  (refine AW.regionC fun Q' Kn hQ hK hK' => ?_; simp (disch := omega) only [go_sem, redN, Nat.reduceAdd, Int.reduceToNat, Nat.min_eq_left, Int.reducePow]; (try simp (disch := omega) only [go_sem, redN, Nat.reduceAdd, Int.reduceToNat, Nat.min_eq_left, Int.reducePow]); (repeat' refine And.intro ?_ ?_); (try any_goals (first | (refine hK _ _ ?_; clear hK' hQ hK Q' Kn) | (intro hq9; refine ⟨hq9, ?_⟩; simp only [redB] at hq9; omega) | (intro hq9; refine ⟨hq9, fun hq8 => ?_⟩; rw [hq9, hq8]; rfl) | (simp; done) | omega | (simp only [List.length_append, List.length_cons, List.length_nil]; omega) | (simp; omega) | (intros; (repeat' refine And.intro ?_ ?_) <;> (first | assumption | omega | (simp; done))))))
  refine AOp.call rfl (by simp only [go_sem]; rfl) (by simp [go_sem]) rfl (ACalls.mono (by simp only [go_sem]; exact t_Parse m _ (by simp) _) ?_)
  rintro e st' ⟨rfl, rfl⟩
  rw [aw3, parseR]
  simp only [encProp]
  (refine AOpsC_ok hK' _ _ _ ?_; simp (disch := omega) only [go_sem, redN, Nat.reduceAdd, Int.reduceToNat, Nat.min_eq_left, Int.reducePow]; (try simp (disch := omega) only [go_sem, redN, Nat.reduceAdd, Int.reduceToNat, Nat.min_eq_left, Int.reducePow]); (repeat' refine And.intro ?_ ?_); (try any_goals (first | (refine hK _ _ ?_; clear hK' hQ hK Q' Kn) | (intro hq9; refine ⟨hq9, ?_⟩; simp only [redB] at hq9; omega) | (intro hq9; refine ⟨hq9, fun hq8 => ?_⟩; rw [hq9, hq8]; rfl) | (simp; done) | omega | (simp only [List.length_append, List.length_cons, List.length_nil]; omega) | (simp; omega) | (intros; (repeat' refine And.intro ?_ ?_) <;> (first | assumption | omega | (simp; done))))))
  refine AOp.alloc rfl (by simp only [go_sem]; rfl) fun b7 h7 => ?_
  (refine AOpsC_ok hK' _ _ _ ?_; simp (disch := omega) only [go_sem, redN, Nat.reduceAdd, Int.reduceToNat, Nat.min_eq_left, Int.reducePow]; (try simp (disch := omega) only [go_sem, redN, Nat.reduceAdd, Int.reduceToNat, Nat.min_eq_left, Int.reducePow]); (repeat' refine And.intro ?_ ?_); (try any_goals (first | (refine hK _ _ ?_; clear hK' hQ hK Q' Kn) | (intro hq9; refine ⟨hq9, ?_⟩; simp only [redB] at hq9; omega) | (intro hq9; refine ⟨hq9, fun hq8 => ?_⟩; rw [hq9, hq8]; rfl) | (simp; done) | omega | (simp only [List.length_append, List.length_cons, List.length_nil]; omega) | (simp; omega) | (intros; (repeat' refine And.intro ?_ ?_) <;> (first | assumption | omega | (simp; done))))))
  refine AOp.storeAll (cs := [.str (⟨[], [], []⟩ : PropD).name, .tree 2 (paramsE (⟨[], [], []⟩ : PropD).params), .str (⟨[], [], []⟩ : PropD).value]) rfl (by (first | (simp only [go_sem]; done) | (simp only [go_sem]; rfl))) (by simp [go_sem]) (St.set_same _ _ _) (by first | (simp only [go_sem]; done) | (simp [go_sem]; done) | (simp [go_sem]; omega)) (by simp [go_sem, isCell]) rfl rfl rfl ?_
  (refine AOpsC_ok hK' _ _ _ ?_; simp (disch := omega) only [go_sem, redN, Nat.reduceAdd, Int.reduceToNat, Nat.min_eq_left, Int.reducePow]; (try simp (disch := omega) only [go_sem, redN, Nat.reduceAdd, Int.reduceToNat, Nat.min_eq_left, Int.reducePow]); (repeat' refine And.intro ?_ ?_); (try any_goals (first | (refine hK _ _ ?_; clear hK' hQ hK Q' Kn) | (intro hq9; refine ⟨hq9, ?_⟩; simp only [redB] at hq9; omega) | (intro hq9; refine ⟨hq9, fun hq8 => ?_⟩; rw [hq9, hq8]; rfl) | (simp; done) | omega | (simp only [List.length_append, List.length_cons, List.length_nil]; omega) | (simp; omega) | (intros; (repeat' refine And.intro ?_ ?_) <;> (first | assumption | omega | (simp; done))))))
  rw [St.set_set]
  (repeat' (first | refine AW.seq ?_ | refine AW.scope ?_ | refine AW.label ?_ | refine AW.block ?_ | refine AW.skip ?_ | refine AW.exit ?_ | refine AW.ret ?_))
  refine AW.freeze 7 rfl (St.set_same _ _ _) ?_
  rw [St.del_set _ _ h7]
  (repeat' (first | refine AW.seq ?_ | refine AW.scope ?_ | refine AW.label ?_ | refine AW.block ?_ | refine AW.skip ?_ | refine AW.exit ?_ | refine AW.ret ?_))
  (refine AW.regionC fun Q' Kn hQ hK hK' => ?_; simp (disch := omega) only [go_sem, redN, Nat.reduceAdd, Int.reduceToNat, Nat.min_eq_left, Int.reducePow]; (try simp (disch := omega) only [go_sem, redN, Nat.reduceAdd, Int.reduceToNat, Nat.min_eq_left, Int.reducePow]); (repeat' refine And.intro ?_ ?_); (try any_goals (first | (refine hK _ _ ?_; clear hK' hQ hK Q' Kn) | (intro hq9; refine ⟨hq9, ?_⟩; simp only [redB] at hq9; omega) | (intro hq9; refine ⟨hq9, fun hq8 => ?_⟩; rw [hq9, hq8]; rfl) | (simp; done) | omega | (simp only [List.length_append, List.length_cons, List.length_nil]; omega) | (simp; omega) | (intros; (repeat' refine And.intro ?_ ?_) <;> (first | assumption | omega | (simp; done))))))
  refine AOp.call rfl (by simp only [go_sem]; rfl) (by simp [go_sem]) rfl (ACalls.mono (by simp only [go_sem]; exact t_Unfold m _ (by simp) _) ?_)
  rintro e st' ⟨rfl, rfl⟩
  rw [aw4, unfoldR]
  (refine AOpsC_ok hK' _ _ _ ?_; simp (disch := omega) only [go_sem, redN, Nat.reduceAdd, Int.reduceToNat, Nat.min_eq_left, Int.reducePow]; (try simp (disch := omega) only [go_sem, redN, Nat.reduceAdd, Int.reduceToNat, Nat.min_eq_left, Int.reducePow]); (repeat' refine And.intro ?_ ?_); (try any_goals (first | (refine hK _ _ ?_; clear hK' hQ hK Q' Kn) | (intro hq9; refine ⟨hq9, ?_⟩; simp only [redB] at hq9; omega) | (intro hq9; refine ⟨hq9, fun hq8 => ?_⟩; rw [hq9, hq8]; rfl) | (simp; done) | omega | (simp only [List.length_append, List.length_cons, List.length_nil]; omega) | (simp; omega) | (intros; (repeat' refine And.intro ?_ ?_) <;> (first | assumption | omega | (simp; done))))))
  (repeat' (first | refine AW.seq ?_ | refine AW.scope ?_ | refine AW.label ?_ | refine AW.block ?_ | refine AW.skip ?_ | refine AW.exit ?_ | refine AW.ret ?_))
  (refine AW.regionC fun Q' Kn hQ hK hK' => ?_; simp (disch := omega) only [go_sem, redN, Nat.reduceAdd, Int.reduceToNat, Nat.min_eq_left, Int.reducePow]; (try simp (disch := omega) only [go_sem, redN, Nat.reduceAdd, Int.reduceToNat, Nat.min_eq_left, Int.reducePow]); (repeat' refine And.intro ?_ ?_); (try any_goals (first | (refine hK _ _ ?_; clear hK' hQ hK Q' Kn) | (intro hq9; refine ⟨hq9, ?_⟩; simp only [redB] at hq9; omega) | (intro hq9; refine ⟨hq9, fun hq8 => ?_⟩; rw [hq9, hq8]; rfl) | (simp; done) | omega | (simp only [List.length_append, List.length_cons, List.length_nil]; omega) | (simp; omega) | (intros; (repeat' refine And.intro ?_ ?_) <;> (first | assumption | omega | (simp; done))))))
  refine AOp.call rfl (by simp only [go_sem]; rfl) (by simp [go_sem]) rfl (ACalls.mono (by simp only [go_sem]; exact t_Unfold m _ (by simp) _) ?_)
  rintro e st' ⟨rfl, rfl⟩
  rw [aw5, unfoldR]
  (refine AOpsC_ok hK' _ _ _ ?_; simp (disch := omega) only [go_sem, redN, Nat.reduceAdd, Int.reduceToNat, Nat.min_eq_left, Int.reducePow]; (try simp (disch := omega) only [go_sem, redN, Nat.reduceAdd, Int.reduceToNat, Nat.min_eq_left, Int.reducePow]); (repeat' refine And.intro ?_ ?_); (try any_goals (first | (refine hK _ _ ?_; clear hK' hQ hK Q' Kn) | (intro hq9; refine ⟨hq9, ?_⟩; simp only [redB] at hq9; omega) | (intro hq9; refine ⟨hq9, fun hq8 => ?_⟩; rw [hq9, hq8]; rfl) | (simp; done) | omega | (simp only [List.length_append, List.length_cons, List.length_nil]; omega) | (simp; omega) | (intros; (repeat' refine And.intro ?_ ?_) <;> (first | assumption | omega | (simp; done))))))
  (repeat' (first | refine AW.seq ?_ | refine AW.scope ?_ | refine AW.label ?_ | refine AW.block ?_ | refine AW.skip ?_ | refine AW.exit ?_ | refine AW.ret ?_))
  (refine AW.regionC fun Q' Kn hQ hK hK' => ?_; simp (disch := omega) only [go_sem, redN, Nat.reduceAdd, Int.reduceToNat, Nat.min_eq_left, Int.reducePow]; (try simp (disch := omega) only [go_sem, redN, Nat.reduceAdd, Int.reduceToNat, Nat.min_eq_left, Int.reducePow]); (repeat' refine And.intro ?_ ?_); (try any_goals (first | (refine hK _ _ ?_; clear hK' hQ hK Q' Kn) | (intro hq9; refine ⟨hq9, ?_⟩; simp only [redB] at hq9; omega) | (intro hq9; refine ⟨hq9, fun hq8 => ?_⟩; rw [hq9, hq8]; rfl) | (simp; done) | omega | (simp only [List.length_append, List.length_cons, List.length_nil]; omega) | (simp; omega) | (intros; (repeat' refine And.intro ?_ ?_) <;> (first | assumption | omega | (simp; done))))))
  refine AOps.guard_call (f := 14) (v := .str (printL propA)) rfl rfl rfl rfl rfl (fun _ => (by (first | (simp only [go_sem]; done) | (simp only [go_sem]; rfl)))) (fun h => by first | (simp [go_sem]; done) | simpa [go_sem] using h) rfl (fun hg => by simp only [go_sem]; exact t_Print m propA propA_B (propA_CA _) _) ?_
  (refine AOpsC_ok hK' _ _ _ ?_; simp (disch := omega) only [go_sem, redN, Nat.reduceAdd, Int.reduceToNat, Nat.min_eq_left, Int.reducePow]; (try simp (disch := omega) only [go_sem, redN, Nat.reduceAdd, Int.reduceToNat, Nat.min_eq_left, Int.reducePow]); (repeat' refine And.intro ?_ ?_); (try any_goals (first | (refine hK _ _ ?_; clear hK' hQ hK Q' Kn) | (intro hq9; refine ⟨hq9, ?_⟩; simp only [redB] at hq9; omega) | (intro hq9; refine ⟨hq9, fun hq8 => ?_⟩; rw [hq9, hq8]; rfl) | (simp; done) | omega | (simp only [List.length_append, List.length_cons, List.length_nil]; omega) | (simp; omega) | (intros; (repeat' refine And.intro ?_ ?_) <;> (first | assumption | omega | (simp; done))))))
  refine AOps.guard rfl rfl rfl (by simp only [go_sem]; rfl) (fun _ => ?_) (fun h => ?_)
  rotate_left
  · exfalso; revert h; rw [aw7]; decide +kernel
  refine AOp.buildSlice (e := 9) (sz := 1) (es := strsE [[65, 58, 98, 99], [68, 58, 101]]) rfl rfl rfl rfl (by simp [partsC, go_sem]) (by simp [aParts, go_sem, strsE]) (by simp [strsE]) rfl (by decide) (by decide) fun it hit => ?_
  (refine AOpsC_ok hK' _ _ _ ?_; simp (disch := omega) only [go_sem, redN, Nat.reduceAdd, Int.reduceToNat, Nat.min_eq_left, Int.reducePow]; (try simp (disch := omega) only [go_sem, redN, Nat.reduceAdd, Int.reduceToNat, Nat.min_eq_left, Int.reducePow]); (repeat' refine And.intro ?_ ?_); (try any_goals (first | (refine hK _ _ ?_; clear hK' hQ hK Q' Kn) | (intro hq9; refine ⟨hq9, ?_⟩; simp only [redB] at hq9; omega) | (intro hq9; refine ⟨hq9, fun hq8 => ?_⟩; rw [hq9, hq8]; rfl) | (simp; done) | omega | (simp only [List.length_append, List.length_cons, List.length_nil]; omega) | (simp; omega) | (intros; (repeat' refine And.intro ?_ ?_) <;> (first | assumption | omega | (simp; done))))))
  refine AOps.guard_call (f := 20) (v := .bool true) rfl rfl rfl rfl rfl (fun _ => (by (first | (simp only [go_sem]; done) | (simp only [go_sem]; rfl)))) (fun h => by first | (simp [go_sem]; done) | simpa [go_sem] using h) rfl (fun hg => by simp only [go_sem]; exact r_TextsA (Gt m) [[65, 58, 98, 99], [68, 58, 101]] [[65, 58, 98, 99], [68, 58, 101]] (by decide) (by decide) it _ (St.set_same _ _ _)) ?_
  (refine AOpsC_ok hK' _ _ _ ?_; simp (disch := omega) only [go_sem, redN, Nat.reduceAdd, Int.reduceToNat, Nat.min_eq_left, Int.reducePow]; (try simp (disch := omega) only [go_sem, redN, Nat.reduceAdd, Int.reduceToNat, Nat.min_eq_left, Int.reducePow]); (repeat' refine And.intro ?_ ?_); (try any_goals (first | (refine hK _ _ ?_; clear hK' hQ hK Q' Kn) | (intro hq9; refine ⟨hq9, ?_⟩; simp only [redB] at hq9; omega) | (intro hq9; refine ⟨hq9, fun hq8 => ?_⟩; rw [hq9, hq8]; rfl) | (simp; done) | omega | (simp only [List.length_append, List.length_cons, List.length_nil]; omega) | (simp; omega) | (intros; (repeat' refine And.intro ?_ ?_) <;> (first | assumption | omega | (simp; done))))))
  (repeat' (first | refine AW.seq ?_ | refine AW.scope ?_ | refine AW.label ?_ | refine AW.block ?_ | refine AW.skip ?_ | refine AW.exit ?_ | refine AW.ret ?_ | (refine AW.regionC fun Q' Kn hQ hK hK' => ?_; simp (disch := omega) only [go_sem, redN, Nat.reduceAdd, Int.reduceToNat, Nat.min_eq_left, Int.reducePow]; (try simp (disch := omega) only [go_sem, redN, Nat.reduceAdd, Int.reduceToNat, Nat.min_eq_left, Int.reducePow]); (repeat' refine And.intro ?_ ?_); (try any_goals (first | (refine hK _ _ ?_; clear hK' hQ hK Q' Kn) | (intro hq9; refine ⟨hq9, ?_⟩; simp only [redB] at hq9; omega) | (intro hq9; refine ⟨hq9, fun hq8 => ?_⟩; rw [hq9, hq8]; rfl) | (simp; done) | omega | (simp only [List.length_append, List.length_cons, List.length_nil]; omega) | (simp; omega) | (intros; (repeat' refine And.intro ?_ ?_) <;> (first | assumption | omega | (simp; done)))))) | (refine AW.cond (by simp (disch := omega) only [go_sem, redN, Nat.reduceAdd, Int.reduceToNat, Nat.min_eq_left, Int.reducePow]; rfl) (fun hb => ?_) (fun hb => ?_) <;> (try simp only [redB, Bool.true_eq_false, Bool.false_eq_true] at hb))))
  (refine ⟨_, _, rfl, by simp, ?_⟩; simp only [aTup, AA.get, List.getD_cons_zero, List.getD_cons_succ, true_and])
  exact ⟨St.sub_set (St.sub_refl _) hit _, by rw [aw7]; kernel_rfl⟩

/-- What a parse answers. -/
def resP : Except Int PropD → PropD × Int
  | .ok p => (p, 0)
  | .error k => (⟨[], [], []⟩, k)
theorem parseR_eq (e : Except Int PropD) : parseR e = .tup [.agg (encProp (resP e).1), .int .i64 (resP e).2] := by
  cases e <;> rfl
theorem pVals_count : ∀ (n : Nat) (s : List UInt8) (acc vs : List (List UInt8)) (r : List UInt8), pVals n s acc = .ok (vs, r) → vs.length ≤ acc.length + n
  | 0, _, _, _, _, h => by simp [pVals] at h
  | n + 1, s, acc, vs, r, h => by
    simp only [pVals] at h
    split at h
    · cases h
    · rename_i v r' hv
      split at h
      · have := pVals_count n _ _ _ _ h
        simp at this; omega
      · cases h; simp
theorem pParam_count {s r : List UInt8} {x : ParamD} (h : pParam s = .ok (x, r)) : x.values.length ≤ s.length + 1 := by
  unfold pParam at h
  split at h
  · cases h
  · rename_i n r1 h1
    have q1 := pName_len h1
    split at h
    · cases h
    · rename_i r2 h2
      have q2 := pMust_len h2
      split at h
      · cases h
      · rename_i vs r3 h3
        have q3 := pVals_count _ _ _ _ _ h3
        cases h; simp at q3; dsimp only; omega
theorem pParams_count : ∀ (n : Nat) (s : List UInt8) (acc ps : List ParamD) (r : List UInt8) (M : Nat), s.length ≤ M → acc.length ≤ 16 → (∀ x ∈ acc, x.values.length ≤ M + 1) → pParams n s acc = .ok (ps, r) → ps.length ≤ 16 ∧ ∀ x ∈ ps, x.values.length ≤ M + 1
  | 0, _, _, _, _, _, _, _, _, h => by simp [pParams] at h
  | n + 1, s, acc, ps, r, M, hs, ha, hx, h => by
    simp only [pParams] at h
    split at h
    · split at h
      · cases h
      · split at h
        · cases h
        · rename_i h0 x r' hp
          have h1 := pParam_count hp
          have h2 := pParam_len hp
          simp only [List.length_drop] at h1 h2
          refine pParams_count n r' (acc ++ [x]) ps r M (by omega) (by simp; omega) (fun y hy => ?_) h
          rcases List.mem_append.1 hy with q | q
          · exact hx y q
          · have : y = x := by simpa using q
            subst this; omega
    · cases h; exact ⟨ha, hx⟩
theorem parseL_ok (s : List UInt8) : PropOk (resP (parseL s)).1 := by
  have h0 : PropOk ⟨[], [], []⟩ := ⟨by simp, by simp⟩
  cases h : parseL s with
  | error k => exact h0
  | ok p =>
    unfold parseL at h
    split at h
    · cases h
    split at h
    · cases h
    split at h
    · cases h
    rename_i n r hn
    have q1 := pName_len hn
    split at h
    · cases h
    rename_i ps r' hps
    have q2 := pParams_count _ _ _ _ _ 1024 (by omega) (by simp) (by simp) hps
    split at h
    · cases h
    split at h
    · cases h
      exact ⟨by have := q2.1; simp only [resP]; omega, fun x hx => by have := q2.2 x hx; omega⟩
    · cases h

/-- THE LAW OF READING. -/
theorem l_LineReads (m : Int) (s : List UInt8) (hs : s.length ≤ 9223372036854775807) (st : St) : ACalls (Ev (Gt m)) 3 [.str s] st (fun e st' => st' = st ∧ e = .ret (.bool true)) := by
  have hok := parseL_ok s
  obtain ⟨q, hq⟩ : ∃ q, resP (parseL s) = q := ⟨_, rfl⟩
  rw [hq] at hok
  refine ACalls.of_body Tryd.func3 rfl ?_
  rw [Tryd.ntmps3]
  simp only [List.length_cons, List.length_nil, Nat.reduceAdd, Nat.reduceSub, List.replicate_succ, List.replicate_zero, List.cons_append, List.nil_append]
  (repeat' (first | refine AW.seq ?_ | refine AW.scope ?_ | refine AW.label ?_ | refine AW.block ?_ | refine AW.skip ?_ | refine AW.exit ?_ | refine AW.ret ?_))
  (refine AW.regionC fun Q' Kn hQ hK hK' => ?_; simp (disch := omega) only [go_sem, redN, Nat.reduceAdd, Int.reduceToNat, Nat.min_eq_left, Int.reducePow]; (try simp (disch := omega) only [go_sem, redN, Nat.reduceAdd, Int.reduceToNat, Nat.min_eq_left, Int.reducePow]); (repeat' refine And.intro ?_ ?_); (try any_goals (first | (refine hK _ _ ?_; clear hK' hQ hK Q' Kn) | (intro hq9; refine ⟨hq9, ?_⟩; simp only [redB] at hq9; omega) | (intro hq9; refine ⟨hq9, fun hq8 => ?_⟩; rw [hq9, hq8]; rfl) | (simp; done) | omega | (simp only [List.length_append, List.length_cons, List.length_nil]; omega) | (simp; omega) | (intros; (repeat' refine And.intro ?_ ?_) <;> (first | assumption | omega | (simp; done))))))
  (repeat' (first | refine AW.seq ?_ | refine AW.scope ?_ | refine AW.label ?_ | refine AW.block ?_ | refine AW.skip ?_ | refine AW.exit ?_ | refine AW.ret ?_))
  (refine AW.regionC fun Q' Kn hQ hK hK' => ?_; simp (disch := omega) only [go_sem, redN, Nat.reduceAdd, Int.reduceToNat, Nat.min_eq_left, Int.reducePow]; (try simp (disch := omega) only [go_sem, redN, Nat.reduceAdd, Int.reduceToNat, Nat.min_eq_left, Int.reducePow]); (repeat' refine And.intro ?_ ?_); (try any_goals (first | (refine hK _ _ ?_; clear hK' hQ hK Q' Kn) | (intro hq9; refine ⟨hq9, ?_⟩; simp only [redB] at hq9; omega) | (intro hq9; refine ⟨hq9, fun hq8 => ?_⟩; rw [hq9, hq8]; rfl) | (simp; done) | omega | (simp only [List.length_append, List.length_cons, List.length_nil]; omega) | (simp; omega) | (intros; (repeat' refine And.intro ?_ ?_) <;> (first | assumption | omega | (simp; done))))))
  refine AOp.call rfl (by simp only [go_sem]; rfl) (by simp [go_sem]) rfl (ACalls.mono (by simp only [go_sem]; exact t_Parse m s hs _) ?_)
  rintro e st' ⟨rfl, rfl⟩
  rw [parseR_eq, hq]
  simp only [encProp]
  (refine AOpsC_ok hK' _ _ _ ?_; simp (disch := omega) only [go_sem, redN, Nat.reduceAdd, Int.reduceToNat, Nat.min_eq_left, Int.reducePow]; (try simp (disch := omega) only [go_sem, redN, Nat.reduceAdd, Int.reduceToNat, Nat.min_eq_left, Int.reducePow]); (repeat' refine And.intro ?_ ?_); (try any_goals (first | (refine hK _ _ ?_; clear hK' hQ hK Q' Kn) | (intro hq9; refine ⟨hq9, ?_⟩; simp only [redB] at hq9; omega) | (intro hq9; refine ⟨hq9, fun hq8 => ?_⟩; rw [hq9, hq8]; rfl) | (simp; done) | omega | (simp only [List.length_append, List.length_cons, List.length_nil]; omega) | (simp; omega) | (intros; (repeat' refine And.intro ?_ ?_) <;> (first | assumption | omega | (simp; done))))))
  refine AOp.alloc rfl (by simp only [go_sem]; rfl) fun b1 h1 => ?_
  (refine AOpsC_ok hK' _ _ _ ?_; simp (disch := omega) only [go_sem, redN, Nat.reduceAdd, Int.reduceToNat, Nat.min_eq_left, Int.reducePow]; (try simp (disch := omega) only [go_sem, redN, Nat.reduceAdd, Int.reduceToNat, Nat.min_eq_left, Int.reducePow]); (repeat' refine And.intro ?_ ?_); (try any_goals (first | (refine hK _ _ ?_; clear hK' hQ hK Q' Kn) | (intro hq9; refine ⟨hq9, ?_⟩; simp only [redB] at hq9; omega) | (intro hq9; refine ⟨hq9, fun hq8 => ?_⟩; rw [hq9, hq8]; rfl) | (simp; done) | omega | (simp only [List.length_append, List.length_cons, List.length_nil]; omega) | (simp; omega) | (intros; (repeat' refine And.intro ?_ ?_) <;> (first | assumption | omega | (simp; done))))))
  refine AOp.storeAll (cs := [.str q.1.name, .tree 2 (paramsE q.1.params), .str q.1.value]) rfl (by (first | (simp only [go_sem]; done) | (simp only [go_sem]; rfl))) (by simp [go_sem]) (St.set_same _ _ _) (by first | (simp only [go_sem]; done) | (simp [go_sem]; done) | (simp [go_sem]; omega)) (by simp [go_sem, isCell]) rfl rfl rfl ?_
  (refine AOpsC_ok hK' _ _ _ ?_; simp (disch := omega) only [go_sem, redN, Nat.reduceAdd, Int.reduceToNat, Nat.min_eq_left, Int.reducePow]; (try simp (disch := omega) only [go_sem, redN, Nat.reduceAdd, Int.reduceToNat, Nat.min_eq_left, Int.reducePow]); (repeat' refine And.intro ?_ ?_); (try any_goals (first | (refine hK _ _ ?_; clear hK' hQ hK Q' Kn) | (intro hq9; refine ⟨hq9, ?_⟩; simp only [redB] at hq9; omega) | (intro hq9; refine ⟨hq9, fun hq8 => ?_⟩; rw [hq9, hq8]; rfl) | (simp; done) | omega | (simp only [List.length_append, List.length_cons, List.length_nil]; omega) | (simp; omega) | (intros; (repeat' refine And.intro ?_ ?_) <;> (first | assumption | omega | (simp; done))))))
  rw [St.set_set]
  (repeat' (first | refine AW.seq ?_ | refine AW.scope ?_ | refine AW.label ?_ | refine AW.block ?_ | refine AW.skip ?_ | refine AW.exit ?_ | refine AW.ret ?_))
  refine AW.freeze 3 rfl (St.set_same _ _ _) ?_
  rw [St.del_set _ _ h1]
  (repeat' (first | refine AW.seq ?_ | refine AW.scope ?_ | refine AW.label ?_ | refine AW.block ?_ | refine AW.skip ?_ | refine AW.exit ?_ | refine AW.ret ?_))
  (refine AW.regionC fun Q' Kn hQ hK hK' => ?_; simp (disch := omega) only [go_sem, redN, Nat.reduceAdd, Int.reduceToNat, Nat.min_eq_left, Int.reducePow]; (try simp (disch := omega) only [go_sem, redN, Nat.reduceAdd, Int.reduceToNat, Nat.min_eq_left, Int.reducePow]); (repeat' refine And.intro ?_ ?_); (try any_goals (first | (refine hK _ _ ?_; clear hK' hQ hK Q' Kn) | (intro hq9; refine ⟨hq9, ?_⟩; simp only [redB] at hq9; omega) | (intro hq9; refine ⟨hq9, fun hq8 => ?_⟩; rw [hq9, hq8]; rfl) | (simp; done) | omega | (simp only [List.length_append, List.length_cons, List.length_nil]; omega) | (simp; omega) | (intros; (repeat' refine And.intro ?_ ?_) <;> (first | assumption | omega | (simp; done))))))
  refine AOp.call rfl (by simp only [go_sem]; rfl) (by simp [go_sem]) rfl (ACalls.mono (by simp only [go_sem]; exact r_Parse m s hs _) ?_)
  rintro e st' ⟨rfl, rfl⟩
  rw [parseR_eq, hq]
  simp only [encProp]
  (refine AOpsC_ok hK' _ _ _ ?_; simp (disch := omega) only [go_sem, redN, Nat.reduceAdd, Int.reduceToNat, Nat.min_eq_left, Int.reducePow]; (try simp (disch := omega) only [go_sem, redN, Nat.reduceAdd, Int.reduceToNat, Nat.min_eq_left, Int.reducePow]); (repeat' refine And.intro ?_ ?_); (try any_goals (first | (refine hK _ _ ?_; clear hK' hQ hK Q' Kn) | (intro hq9; refine ⟨hq9, ?_⟩; simp only [redB] at hq9; omega) | (intro hq9; refine ⟨hq9, fun hq8 => ?_⟩; rw [hq9, hq8]; rfl) | (simp; done) | omega | (simp only [List.length_append, List.length_cons, List.length_nil]; omega) | (simp; omega) | (intros; (repeat' refine And.intro ?_ ?_) <;> (first | assumption | omega | (simp; done))))))
  refine AOp.alloc rfl (by simp only [go_sem]; rfl) fun b2 h2 => ?_
  (refine AOpsC_ok hK' _ _ _ ?_; simp (disch := omega) only [go_sem, redN, Nat.reduceAdd, Int.reduceToNat, Nat.min_eq_left, Int.reducePow]; (try simp (disch := omega) only [go_sem, redN, Nat.reduceAdd, Int.reduceToNat, Nat.min_eq_left, Int.reducePow]); (repeat' refine And.intro ?_ ?_); (try any_goals (first | (refine hK _ _ ?_; clear hK' hQ hK Q' Kn) | (intro hq9; refine ⟨hq9, ?_⟩; simp only [redB] at hq9; omega) | (intro hq9; refine ⟨hq9, fun hq8 => ?_⟩; rw [hq9, hq8]; rfl) | (simp; done) | omega | (simp only [List.length_append, List.length_cons, List.length_nil]; omega) | (simp; omega) | (intros; (repeat' refine And.intro ?_ ?_) <;> (first | assumption | omega | (simp; done))))))
  refine AOp.storeAll (cs := [.str q.1.name, .tree 2 (paramsE q.1.params), .str q.1.value]) rfl (by (first | (simp only [go_sem]; done) | (simp only [go_sem]; rfl))) (by simp [go_sem]) (St.set_same _ _ _) (by first | (simp only [go_sem]; done) | (simp [go_sem]; done) | (simp [go_sem]; omega)) (by simp [go_sem, isCell]) rfl rfl rfl ?_
  (refine AOpsC_ok hK' _ _ _ ?_; simp (disch := omega) only [go_sem, redN, Nat.reduceAdd, Int.reduceToNat, Nat.min_eq_left, Int.reducePow]; (try simp (disch := omega) only [go_sem, redN, Nat.reduceAdd, Int.reduceToNat, Nat.min_eq_left, Int.reducePow]); (repeat' refine And.intro ?_ ?_); (try any_goals (first | (refine hK _ _ ?_; clear hK' hQ hK Q' Kn) | (intro hq9; refine ⟨hq9, ?_⟩; simp only [redB] at hq9; omega) | (intro hq9; refine ⟨hq9, fun hq8 => ?_⟩; rw [hq9, hq8]; rfl) | (simp; done) | omega | (simp only [List.length_append, List.length_cons, List.length_nil]; omega) | (simp; omega) | (intros; (repeat' refine And.intro ?_ ?_) <;> (first | assumption | omega | (simp; done))))))
  rw [St.set_set]
  (repeat' (first | refine AW.seq ?_ | refine AW.scope ?_ | refine AW.label ?_ | refine AW.block ?_ | refine AW.skip ?_ | refine AW.exit ?_ | refine AW.ret ?_))
  refine AW.freeze 5 rfl (St.set_same _ _ _) ?_
  rw [St.del_set _ _ h2]
  (repeat' (first | refine AW.seq ?_ | refine AW.scope ?_ | refine AW.label ?_ | refine AW.block ?_ | refine AW.skip ?_ | refine AW.exit ?_ | refine AW.ret ?_))
  (refine AW.regionC fun Q' Kn hQ hK hK' => ?_; simp (disch := omega) only [go_sem, redN, Nat.reduceAdd, Int.reduceToNat, Nat.min_eq_left, Int.reducePow]; (try simp (disch := omega) only [go_sem, redN, Nat.reduceAdd, Int.reduceToNat, Nat.min_eq_left, Int.reducePow]); (repeat' refine And.intro ?_ ?_); (try any_goals (first | (refine hK _ _ ?_; clear hK' hQ hK Q' Kn) | (intro hq9; refine ⟨hq9, ?_⟩; simp only [redB] at hq9; omega) | (intro hq9; refine ⟨hq9, fun hq8 => ?_⟩; rw [hq9, hq8]; rfl) | (simp; done) | omega | (simp only [List.length_append, List.length_cons, List.length_nil]; omega) | (simp; omega) | (intros; (repeat' refine And.intro ?_ ?_) <;> (first | assumption | omega | (simp; done))))))
  refine AOp.call rfl (by simp only [go_sem]; rfl) (by simp [go_sem]) rfl (ACalls.mono (by simp only [go_sem]; exact r_Same (Gt m) q.1 q.1 hok hok _) ?_)
  rintro e st' ⟨rfl, rfl⟩
  (refine AOpsC_ok hK' _ _ _ ?_; simp (disch := omega) only [go_sem, redN, Nat.reduceAdd, Int.reduceToNat, Nat.min_eq_left, Int.reducePow]; (try simp (disch := omega) only [go_sem, redN, Nat.reduceAdd, Int.reduceToNat, Nat.min_eq_left, Int.reducePow]); (repeat' refine And.intro ?_ ?_); (try any_goals (first | (refine hK _ _ ?_; clear hK' hQ hK Q' Kn) | (intro hq9; refine ⟨hq9, ?_⟩; simp only [redB] at hq9; omega) | (intro hq9; refine ⟨hq9, fun hq8 => ?_⟩; rw [hq9, hq8]; rfl) | (simp; done) | omega | (simp only [List.length_append, List.length_cons, List.length_nil]; omega) | (simp; omega) | (intros; (repeat' refine And.intro ?_ ?_) <;> (first | assumption | omega | (simp; done))))))
  refine AOps.guard_call (f := 9) (v := .bool true) rfl rfl rfl rfl rfl (fun _ => (by (first | (simp only [go_sem]; done) | (simp only [go_sem]; rfl)))) (fun h => by first | (simp [go_sem]; done) | simpa [go_sem] using h) rfl (fun hg => by simp only [go_sem]; exact l_awake m _) ?_
  (refine AOpsC_ok hK' _ _ _ ?_; simp (disch := omega) only [go_sem, redN, Nat.reduceAdd, Int.reduceToNat, Nat.min_eq_left, Int.reducePow]; (try simp (disch := omega) only [go_sem, redN, Nat.reduceAdd, Int.reduceToNat, Nat.min_eq_left, Int.reducePow]); (repeat' refine And.intro ?_ ?_); (try any_goals (first | (refine hK _ _ ?_; clear hK' hQ hK Q' Kn) | (intro hq9; refine ⟨hq9, ?_⟩; simp only [redB] at hq9; omega) | (intro hq9; refine ⟨hq9, fun hq8 => ?_⟩; rw [hq9, hq8]; rfl) | (simp; done) | omega | (simp only [List.length_append, List.length_cons, List.length_nil]; omega) | (simp; omega) | (intros; (repeat' refine And.intro ?_ ?_) <;> (first | assumption | omega | (simp; done))))))
  (repeat' (first | refine AW.seq ?_ | refine AW.scope ?_ | refine AW.label ?_ | refine AW.block ?_ | refine AW.skip ?_ | refine AW.exit ?_ | refine AW.ret ?_ | (refine AW.regionC fun Q' Kn hQ hK hK' => ?_; simp (disch := omega) only [go_sem, redN, Nat.reduceAdd, Int.reduceToNat, Nat.min_eq_left, Int.reducePow]; (try simp (disch := omega) only [go_sem, redN, Nat.reduceAdd, Int.reduceToNat, Nat.min_eq_left, Int.reducePow]); (repeat' refine And.intro ?_ ?_); (try any_goals (first | (refine hK _ _ ?_; clear hK' hQ hK Q' Kn) | (intro hq9; refine ⟨hq9, ?_⟩; simp only [redB] at hq9; omega) | (intro hq9; refine ⟨hq9, fun hq8 => ?_⟩; rw [hq9, hq8]; rfl) | (simp; done) | omega | (simp only [List.length_append, List.length_cons, List.length_nil]; omega) | (simp; omega) | (intros; (repeat' refine And.intro ?_ ?_) <;> (first | assumption | omega | (simp; done)))))) | (refine AW.cond (by simp (disch := omega) only [go_sem, redN, Nat.reduceAdd, Int.reduceToNat, Nat.min_eq_left, Int.reducePow]; rfl) (fun hb => ?_) (fun hb => ?_) <;> (try simp only [redB, Bool.true_eq_false, Bool.false_eq_true] at hb))))
  (refine ⟨_, _, rfl, by simp, ?_⟩; simp only [aTup, AA.get, List.getD_cons_zero, List.getD_cons_succ, true_and])
  simp
end Go.Almanac

/- LineReads: the property of a text is the document's, for any text; the listed tables tied to the text of the program. -/
namespace Go.Proofs.YtkkckfnkejijdaaDoor.lineReads
open Go.ChangeShapes Go.WideShapes Go.ChangeAt Go.RowKit Go.Abs Go.Almanac
open Go.ChangeMaps (open_string shut_string)
set_option linter.unusedVariables false
set_option linter.unusedSimpArgs false

theorem walk (s0 : ByteArray) (hs0 : s0.size ≤ maxLen) (W : World) (hT : Lib.Utf8Tabs 0 1 W) (hS : W.ShapedOpen Tryd.prog) :
    Calls Tryd.prog 3 #[.string s0] W fun e W' => e = .returned (.bool true) ∧ Below W.heap.size W W' := by
  obtain ⟨m, hm⟩ := maxlen hS
  refine law_calls (E := Ev (Gt m)) (glob hT hm) trivial (ACalls.mono (l_LineReads m s0.data.toList (by rw [← Lib.size_eq]; exact Nat.le_trans hs0 (by decide)) _) fun _ _ h => h.2) ?_
  simp [VRs, VR]

set_option maxRecDepth 100000 in
theorem contract (H : Type) (enc : TypeId × Value → H) (W : World) (base : Nat) (args : Array Value) (ds gs : List (DataW H)) (before : List MemPlace)
    (hval : ∀ (j : Nat) t v, Tryd.f3.params[j]? = some t → args[j]? = some v → Value.okWide Tryd.prog W .any base t v)
    (hW : DataW.Whole enc Tryd.prog Tryd.f3.params.toList Rows.lineReadsSpec.vars false W args.toList ds gs before)
    (hL : laidMetH Tryd.prog Rows.lineReadsRow.laid W) (hS : W.ShapedOpen Tryd.prog) :
    Calls Tryd.prog 3 args W fun e W' => ∃ v, e = .returned v ∧ Rows.lineReadsSpec.post enc Tryd.prog Tryd.f3 false true false false W args v W' := by
  have hW' := hW
  obtain ⟨p, q, hA0, hV, rfl, hfz, hnd⟩ := hW
  have hA : DataW.TrodAll enc Tryd.prog W 0 (fun _ => true) true Tryd.f3.params.toList args.toList ds p := hA0
  rw [Tryd.params3] at hA hval
  obtain ⟨v0, vs0, d0, ds0, p0, q0, hargs, rfl, rfl, h0, r0⟩ := trodAll_cons hA
  obtain ⟨rfl, rfl, rfl⟩ := trodAll_nil r0
  obtain rfl : args = #[v0] := by cases args; simp_all
  obtain ⟨rfl, rfl⟩ := trodVars_none hV
  obtain ⟨s0, rfl, rfl, rfl, m0⟩ := open_string Tryd.underlying9 (hval 0 9 v0 rfl rfl) h0
  clear hA0
  simp only [List.append_nil] at hW'
  refine (walk s0 m0 W (tabs hL) hS).mono fun e W' ⟨he, hg⟩ => ?_
  subst he
  exact ⟨_, rfl, post_of_below (pa := []) (pv := []) hW' (fun _ _ _ => trodAll_cons_mk (shut_bool Tryd.underlying4 _) trodAll_mk0)
    (fun _ _ => trodAll_cons_mk (shut_string Tryd.underlying9 m0) trodAll_mk0) (fun _ _ => rfl) hg⟩

theorem reads (os : Os) {H : Type} (enc : TypeId × Value → H) : ∃ places, DataW.whole enc Tryd.prog ((laidWorld os).forCall (fun _ _ => 0) ⟨#[], #[.string .empty], []⟩).memory Tryd.f3.params.toList Rows.lineReadsSpec.vars false #[Value.string .empty].toList 8 = some ([.lit (.string [])], [], places) :=
  ⟨[], by kernel_rfl⟩

set_option maxRecDepth 100000 in
theorem lifted (os : Os) (started : os.Started) (H : Type) (enc : TypeId × Value → H) (F : Stop.Interp) :
    ReturnsInHanded {} Tryd.checked os 3 .any ((OpenSpec.ofChange Rows.lineReadsSpec).preRow enc Tryd.prog Tryd.f3 Rows.lineReadsRow.domain false Rows.lineReadsRow.laid) (((OpenSpec.ofChange Rows.lineReadsSpec).at F).post enc Tryd.prog Tryd.f3 false true false false) := by
  obtain ⟨places, hx⟩ := reads os enc
  refine returnsInHanded_of_row (C := Tryd.checked) (s := OpenSpec.ofChange Rows.lineReadsSpec) own started (by kernel_rfl) Tryd.func3
    (witness_row_at (enc := enc) (C := Tryd.checked) false (laidWorld os) #[.string .empty] rfl (by kernel_rfl) (by kernel_rfl) (by kernel_rfl)
      (OpenSpec.preRow_of_cond 8 hx (by kernel_rfl) (fun k hk => by cases hk) (by kernel_rfl) (laid_met os _))) ?_
  intro W base args ds gs before hval hW _ hk _ hL hS _
  exact contract H enc W base args ds gs before hval hW hL hS

theorem said : Rows.LineReadsSaid :=
  OpenClaim.holds_of_cond 3 Tryd.f3 rfl rfl rfl rfl rfl rfl rfl ⟨rfl, rfl, rfl, rfl, rfl⟩ rfl rfl rfl rfl rfl (by kernel_rfl) Tryd.func3 (by kernel_rfl)
    (of_decide_eq_true (by kernel_rfl)) (by unfold Func.isWrapper; first | (rw [if_pos (by decide +kernel)]; kernel_rfl) | (rw [if_neg (by decide +kernel)]; exact ⟨rfl, rfl⟩))
    (fun os started H enc _ F => by rw [OpenClaim.pre_eq_preRow]; exact lifted os started H enc F)

theorem plain (f : FuncId) (fn : Func) (hf : Tryd.pinned.checked.prog.funcNamed "almanac/almanaclaw11.LineReads" = some f) (hfn : Tryd.pinned.checked.prog.funcs[f]? = some fn) :
    false = Tryd.pinned.checked.prog.looks [] ∧ ∀ (j : Nat) t, fn.params[j]? = some t → Tryd.pinned.checked.prog.wantsStandIn t = false := by
  obtain rfl : f = 3 := Option.some.inj ((show Tryd.prog.funcNamed "almanac/almanaclaw11.LineReads" = some 3 by kernel_rfl).symm.trans hf) |>.symm
  obtain rfl : fn = Tryd.f3 := (Option.some.inj (Tryd.func3.symm.trans hfn)).symm
  refine ⟨by kernel_rfl, fun j t ht => ?_⟩
  rw [Tryd.params3] at ht
  have hm : t ∈ [9] := by simpa using Array.mem_of_getElem? ht
  have hall : ([9].all fun u => !Tryd.prog.wantsStandIn u) = true := by kernel_rfl
  exact (show Tryd.prog.wantsStandIn t = false by simpa using List.all_eq_true.1 hall t hm)

theorem proved : Rows.LineReadsCardSaid :=
  Claim7.holds_tied_plain_at .later [] _ _ _ _ said (fun _ h => by cases h) (by kernel_rfl) (fun _ h => by cases h) lineReads_row_tie rfl ⟨rfl, rfl⟩ (by kernel_rfl) rfl plain (by kernel_rfl)
end Go.Proofs.YtkkckfnkejijdaaDoor.lineReads
