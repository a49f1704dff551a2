/- LineBack: a property written and read is the same, lines folded and unfolded are, and no piece is longer than 75 bytes; for arguments of bulk at most 1048576 (the second form), the listed tables tied to the program's text. -/
import Derived.Test.YtkkckfnkejijdaaDoorRows
import Derived.Test.YtkkckfnkejijdaaDoorM2
import Derived.WalkKit
import Derived.ProofKit
import Derived.OpenShut
import Derived.JoinedCond
import Derived.Test.YtkkckfnkejijdaaDoorCards
import Derived.Test.YtkkckfnkejijdaaDoorTie
import Derived.Test.YtkkckfnkejijdaaDoorM7
import Derived.Test.YtkkckfnkejijdaaDoorM5
import Derived.Lib.LaidTab
import Derived.Lib.LaidU8
import Derived.Shelf.Strings.Shaped
import Derived.Deep.DeepHandedRow
import Derived.Test.YtkkckfnkejijdaaDoorM14
import Derived.Carry
import Derived.SevenTiedAt
/- Statements, closed: what is below the call's world stays, so the statement's last word holds. -/
namespace Go.Abs
open Go.RowKit Go.ChangeShapes Go.WideShapes Go.ChangeAt

variable {H : Type} {enc : TypeId × Value → H} {P : Program}

theorem post_of_below {f : Func} {s : ChangeSpec} {apart fresh handsOn : Bool} {W W' : World} {args : Array Value} {v : Value} {ds gs : List (DataW H)} {before pa pv : List MemPlace}
    (hW : DataW.Whole enc P f.params.toList s.vars apart W args.toList ds gs before)
    (hres : ∀ (b : Nat) (sp : Nat → Bool) (hd : Bool), DataW.TrodAll enc P W' b sp hd f.resultTypes.toList (v.resultList f.resultTypes.size) (s.fn H (ds ++ gs)).results [])
    (hargs : ∀ sp : Nat → Bool, (∀ p ∈ before, sp p.block = true) → DataW.TrodAll enc P W' 0 sp true f.params.toList args.toList (s.fn H (ds ++ gs)).args pa)
    (hvars : ∀ sp : Nat → Bool, (∀ p ∈ before, sp p.block = true) → DataW.TrodVars enc P W' sp s.vars (s.fn H (ds ++ gs)).vars pv)
    (hb : Below W.heap.size W W') :
    s.post enc P f apart fresh handsOn false W args v W' := by
  have hold : ∀ p ∈ before, (fun b => decide (b < W.heap.size)) p.block = true := fun p hp => by simpa using hW.lt p hp
  exact ⟨ds, gs, before, [], pa, pv, hW, hres _ _ _, hargs _ hold, hvars _ hold, hb.frame _, fun h => by cases h⟩

theorem str_eq (s : ByteArray) : Value.string ⟨s.data.toList.toArray⟩ = .string s := by simp

theorem wf_u64 {n : Int} (h : (Lit.int .u64 n).wf = true) : 0 ≤ n ∧ n ≤ 18446744073709551615 := by simpa [Lit.wf, IntKind.min, IntKind.max, IntKind.signed, IntKind.bits] using h
theorem wf_i64 {n : Int} (h : (Lit.int .i64 n).wf = true) : -9223372036854775808 ≤ n ∧ n ≤ 9223372036854775807 := by simpa [Lit.wf, IntKind.min, IntKind.max, IntKind.signed, IntKind.bits] using h
end Go.Abs

/- Layer 11's statements: what the listed tables give; a world for the witness. -/
namespace Go.Almanac
open Go.RowKit Go.Proofs Go.Abs Go.Proofs.YtkkckfnkejijdaaDoor

set_option maxRecDepth 100000

theorem own : ownKnob Tryd.prog.godebug = none := by kernel_rfl

theorem accept_data : (Rows.laid_unicode_utf8_acceptRanges : DataW Unit) = Lib.acceptData := by kernel_rfl
theorem first_data : Rows.laid_unicode_utf8_first = Lib.firstData := by kernel_rfl

/-- What the row's list gives. -/
theorem tabs {W : World} (h : laidMetH Tryd.prog [("unicode/utf8.acceptRanges", Rows.laid_unicode_utf8_acceptRanges), ("unicode/utf8.first", Rows.laid_unicode_utf8_first)] W) : Lib.Utf8Tabs 0 1 W := by
  have h' : laidMet Tryd.prog [("unicode/utf8.acceptRanges", Rows.laid_unicode_utf8_acceptRanges), ("unicode/utf8.first", Rows.laid_unicode_utf8_first)] W := h
  rw [accept_data, first_data] at h'
  exact utf8Tabs_of_reads (ρ := Tryd.lays260_ren) Tryd.lays260 ⟨by kernel_rfl, by kernel_rfl, by kernel_rfl, by kernel_rfl, by kernel_rfl, by kernel_rfl, by kernel_rfl⟩ (Lib.laidMet.reads h' (.tail _ (.head _))) (Lib.laidMet.reads h' (.head _))

theorem maxlen {W : World} (h : W.ShapedOpen Tryd.prog) : ∃ m, W.cell? ⟨2, 0, none⟩ = some (.int .i64 m) :=
  Go.Proofs.cell_of_shapedOpen_int (zero := #[.int .i64 0]) (t := 3) h (of_decide_eq_true (by kernel_rfl)) (by kernel_rfl) rfl (by kernel_rfl) (by kernel_rfl) Tryd.underlying3

theorem glob {W : World} {m : Int} (hT : Lib.Utf8Tabs 0 1 W) (hm : W.cell? ⟨2, 0, none⟩ = some (.int .i64 m)) : ∀ g, VR (K.start W) ((Ev (Gt m)).G g) (.pointer (some ⟨g, 0, none⟩)) := by
  intro g
  match g with
  | 0 =>
    refine glob_cells fun j c hc => ?_
    have hj : j < 256 := by
      rcases Nat.lt_or_ge j 256 with h | h
      · exact h
      · rw [firsts, List.getElem?_map, List.getElem?_eq_none (by simpa using h)] at hc; cases hc
    rw [firsts, List.getElem?_map, List.getElem?_range hj] at hc
    cases hc
    exact ⟨_, hT.1 j hj, fun κ => by simp [VR]⟩
  | 1 =>
    refine glob_cells fun j c hc => ?_
    have hj : j < 32 := by
      rcases Nat.lt_or_ge j 32 with h | h
      · exact h
      · rw [accepts, List.getElem?_map, List.getElem?_eq_none (by simpa using h)] at hc; cases hc
    rw [accepts, List.getElem?_map, List.getElem?_range hj] at hc
    cases hc
    obtain ⟨h1, h2⟩ := hT.2 (j / 2) (by omega)
    dsimp only
    by_cases hp : j % 2 = 0
    · rw [if_pos hp]
      exact ⟨_, by rw [show 2 * (j / 2) = j from by omega] at h1; exact h1, fun κ => by simp [VR]⟩
    · rw [if_neg hp]
      exact ⟨_, by rw [show 2 * (j / 2) + 1 = j from by omega] at h2; exact h2, fun κ => by simp [VR]⟩
  | 2 =>
    refine glob_cells fun j c hc => ?_
    match j, hc with
    | 0, hc => cases hc; exact ⟨_, hm, fun κ => by simp [VR]⟩
    | j + 1, hc => simp at hc
  | g + 3 => exact glob_nil (g + 3)

/-- The witness's world: the settled one, the two tables holding what their initialisers lay. -/
noncomputable def laidWorld (os : Os) : World :=
  let w0 := World.holding Tryd.prog os ⟨#[], #[], []⟩
  let put (h : Array Obj) (g : Nat) (cs : Array Value) : Array Obj := h.modify g fun
    | .cells _ t frozen => .cells cs t frozen
    | o => o
  { w0 with heap := put (put w0.heap 0 (Lib.firstTab.map fun z => Value.int .u8 z).toArray) 1 ((List.range 16).flatMap fun i => [Value.int .u8 (Lib.accLo i), Value.int .u8 (Lib.accHi i)]).toArray }
theorem laid_met (os : Os) (args : Array Value) : laidMet Tryd.prog [("unicode/utf8.acceptRanges", Rows.laid_unicode_utf8_acceptRanges), ("unicode/utf8.first", Rows.laid_unicode_utf8_first)] ((laidWorld os).forCall (fun _ _ => 0) ⟨#[], args, []⟩).memory := by
  exact laidMet_of_run' 8 (by kernel_rfl) (by kernel_rfl)
end Go.Almanac

/- LineBack: a property written and read is the same, lines folded and unfolded are, and no piece is longer than 75 bytes; for arguments of bulk at most 1048576 (the second form), the listed tables tied to the program's text. -/
namespace Go.Proofs.YtkkckfnkejijdaaDoor.lineBack
open Go.ChangeShapes Go.WideShapes Go.ChangeAt Go.RowKit Go.Abs Go.Almanac
open Go.ChangeMaps (open_string shut_string)
set_option linter.unusedVariables false
set_option linter.unusedSimpArgs false

theorem post_of_below2 {H : Type} {enc : TypeId × Value → H} {P : Program} {f : Func} {s : ChangeSpec} {apart fresh handsOn : Bool} {W W' : World} {args : Array Value} {v : Value} {ds gs : List (DataW H)} {before pa pv : List MemPlace}
    (hW : DataW.Whole enc P f.params.toList s.vars apart W args.toList ds gs before)
    (hres : ∀ (b : Nat) (sp : Nat → Bool) (hd : Bool), DataW.TrodAll enc P W' b sp hd f.resultTypes.toList (v.resultList f.resultTypes.size) (s.fn H (ds ++ gs)).results [])
    (hargs : DataW.TrodAll enc P W' 0 (fun b => decide (b < W.heap.size)) true f.params.toList args.toList (s.fn H (ds ++ gs)).args pa)
    (hvars : DataW.TrodVars enc P W' (fun b => decide (b < W.heap.size)) s.vars (s.fn H (ds ++ gs)).vars pv)
    (hb : Below W.heap.size W W') :
    s.post enc P f apart fresh handsOn false W args v W' :=
  ⟨ds, gs, before, [], pa, pv, hW, hres _ _ _, hargs, hvars, hb.frame _, fun h => by cases h⟩

theorem foldL_le : ∀ l : List (List UInt8), (foldL l).length ≤ 4 * bulkLL (strsE l)
  | [] => by simp [foldL]
  | s :: l => by
    have h1 := foldL_le l
    have h2 := foldN_len s.length s 0
    have h : bulkLL (strsE (s :: l)) = s.length + 1 + bulkLL (strsE l) := by simp [strsE, bulkLL, bulkL, AV.bulk]
    simp only [foldL, List.map_cons, List.flatten_cons, List.length_append, foldE, List.length_cons, List.length_nil] at h1 ⊢
    omega

theorem notAgg {P : Program} {W : World} {base : Nat} {t e : TypeId} {cs : Array Value} (hu : P.underlying t = some (.slice e)) (h : Value.okWide P W .any base t (.agg cs)) : False := by
  unfold Value.okWide at h
  rw [hu] at h
  unfold Cell.okWide at h
  rw [hu] at h
  unfold Cell.ok at h
  rw [hu] at h
  exact h
set_option maxRecDepth 100000 in
/-- An argument that is a list of texts, opened. -/
theorem open_strs {H : Type} {enc : TypeId × Value → H} {W : World} {base : Nat} {v : Value} {d : DataW H} {ps : List MemPlace} (hval : Value.okWide Tryd.prog W .any base 38 v) (h : DataW.Trod enc Tryd.prog W 0 (fun _ => true) true 38 v d ps) :
    ∃ l : List (List UInt8), VR (K.start W) (.tree 1 (strsE l)) v ∧ bulkLL (strsE l) ≤ Go.Proofs.YtkkckfnkejijdaaDoor.Rows.uptoBulk d := by
  have hc : v.cells = #[v] := by
    cases v with
    | agg cs =>
      exact (notAgg Tryd.underlying38 hval).elim
    | _ => rfl
  obtain ⟨fuel, hf⟩ := h
  rw [hc] at hf
  obtain ⟨avs, h1, h2, h3, h4⟩ := open_any (by kernel_rfl) (by kernel_rfl) fuel 38 _ _ (of_decide_eq_true (by kernel_rfl)) hf
  obtain ⟨l, rfl⟩ := wf_strs h3
  refine ⟨l, ?_, ?_⟩
  · simp only [VRs] at h2
    obtain ⟨x, xs, hx, hv, hn⟩ := h2
    cases hx
    exact hv
  · have : bulkLL (strsE l) ≤ bulkL [AV.tree 1 (strsE l)] := by simp [bulkL, AV.bulk] <;> omega
    have h5 : bulkL [AV.tree 1 (strsE l)] ≤ Go.Proofs.YtkkckfnkejijdaaDoor.Rows.uptoBulk d := h4
    omega

theorem short {H : Type} {d0 d1 : DataW H} (hk : Rows.uptoSmall H [d0, d1] = true) : Rows.uptoBulk d0 ≤ 1048576 ∧ Rows.uptoBulk d1 ≤ 1048576 := by
  have h : Rows.uptoBulkAll [d0, d1] ≤ 1048576 := of_decide_eq_true hk
  simp only [Rows.uptoBulkAll] at h
  omega

theorem walk (p : PropD) (l : List (List UInt8)) (v0 v1 : Value) (hp : PropB p) (hl : bulkLL (strsE l) ≤ 1048576) (W : World) (h0 : VR (K.start W) (.agg (encProp p)) v0) (h1 : VR (K.start W) (.tree 1 (strsE l)) v1) (hT : Lib.Utf8Tabs 0 1 W) (hS : W.ShapedOpen Tryd.prog) :
    Calls Tryd.prog 5 #[v0, v1] W fun e W' => e = .returned (.bool true) ∧ Below W.heap.size W W' := by
  obtain ⟨m, hm⟩ := maxlen hS
  obtain ⟨b1, b2⟩ := strs_bulk l
  have b3 := foldL_le l
  refine law_calls (E := Ev (Gt m)) (glob hT hm) trivial (ACalls.mono (l_LineBack m p l hp (by omega) (fun s hs => by have := b2 s hs; omega) (by omega) _) fun _ _ h => h.2) ?_
  simp only [VRs]
  exact ⟨v0, _, rfl, h0, v1, _, rfl, h1, rfl⟩

set_option maxRecDepth 100000 in
theorem contract (H : Type) (enc : TypeId × Value → H) (W : World) (base : Nat) (args : Array Value) (ds gs : List (DataW H)) (before : List MemPlace)
    (hval : ∀ (j : Nat) t v, Tryd.f5.params[j]? = some t → args[j]? = some v → Value.okWide Tryd.prog W .any base t v)
    (hW : DataW.Whole enc Tryd.prog Tryd.f5.params.toList Rows.lineBackSpec.vars false W args.toList ds gs before) (hk : Rows.uptoSmall H (ds ++ gs) = true)
    (hL : laidMetH Tryd.prog Rows.lineBackUptoRow.laid W) (hS : W.ShapedOpen Tryd.prog) :
    Calls Tryd.prog 5 args W fun e W' => ∃ v, e = .returned v ∧ Rows.lineBackSpec.post enc Tryd.prog Tryd.f5 false true false false W args v W' := by
  have hW' := hW
  have hlt := hW.lt
  obtain ⟨p, q, hA0, hV, rfl, hfz, hnd⟩ := hW
  have hA : DataW.TrodAll enc Tryd.prog W 0 (fun _ => true) true Tryd.f5.params.toList args.toList ds p := hA0
  rw [Tryd.params5] at hA hval
  obtain ⟨v0, vs0, d0, ds0, p0, q0, hargs, rfl, rfl, h0, r0⟩ := trodAll_cons hA
  obtain ⟨v1, vs1, d1, ds1, p1, q1, hargs1, rfl, rfl, h1, r1⟩ := trodAll_cons r0
  obtain ⟨rfl, rfl, rfl⟩ := trodAll_nil r1
  subst hargs1
  obtain rfl : args = #[v0, v1] := by cases args; simp_all
  obtain ⟨rfl, rfl⟩ := trodVars_none hV
  obtain ⟨P0, g0, b0⟩ := open_prop (hval 0 24 v0 rfl rfl) h0
  obtain ⟨P1, g1, b1⟩ := open_strs (hval 1 38 v1 rfl rfl) h1
  clear hA0
  simp only [List.append_nil] at hW' hk hlt
  obtain ⟨k0, k1⟩ := short hk
  refine (walk P0 P1 v0 v1 (prop_bounds (by omega)) (by omega) W g0 g1 (tabs hL) hS).mono fun e W' ⟨he, hg⟩ => ?_
  subst he
  have t0 := Below.trod (by kernel_rfl) (by kernel_rfl) (of_decide_eq_true (by kernel_rfl)) h0 hg (fun x hx => hlt x (by simp [hx]))
  have t1 := Below.trod (by kernel_rfl) (by kernel_rfl) (of_decide_eq_true (by kernel_rfl)) h1 hg (fun x hx => hlt x (by simp [hx]))
  exact ⟨_, rfl, post_of_below2 (pa := p0 ++ (p1 ++ [])) (pv := []) hW' (fun _ _ _ => trodAll_cons_mk (shut_bool Tryd.underlying4 _) trodAll_mk0)
    (trodAll_cons_mk t0 (trodAll_cons_mk t1 trodAll_mk0)) rfl hg⟩

theorem reads (os : Os) {H : Type} (enc : TypeId × Value → H) : ∃ places, DataW.whole enc Tryd.prog ((laidWorld os).forCall (fun _ _ => 0) ⟨#[], #[.agg #[.string .empty, .slice none 0 0, .string .empty], .slice none 0 0], []⟩).memory Tryd.f5.params.toList Rows.lineBackSpec.vars false #[Value.agg #[.string .empty, .slice none 0 0, .string .empty], Value.slice none 0 0].toList 8 = some ([.agg [.lit (.string []), .nil, .lit (.string [])], .nil], [], places) :=
  ⟨[], by kernel_rfl⟩

set_option maxRecDepth 100000 in
theorem lifted (os : Os) (started : os.Started) (H : Type) (enc : TypeId × Value → H) (F : Stop.Interp) :
    ReturnsInHanded {} Tryd.checked os 5 .any ((Rows.OpenSpec.upto Rows.lineBackSpec).preRow enc Tryd.prog Tryd.f5 Rows.lineBackUptoRow.domain false Rows.lineBackUptoRow.laid) (((Rows.OpenSpec.upto Rows.lineBackSpec).at F).post enc Tryd.prog Tryd.f5 false true false false) := by
  obtain ⟨places, hx⟩ := reads os enc
  refine returnsInHanded_of_row (C := Tryd.checked) (s := Rows.OpenSpec.upto Rows.lineBackSpec) own started (by kernel_rfl) Tryd.func5
    (witness_row_at (enc := enc) (C := Tryd.checked) false (laidWorld os) #[.agg #[.string .empty, .slice none 0 0, .string .empty], .slice none 0 0] rfl (by kernel_rfl) (by kernel_rfl) (by kernel_rfl)
      (OpenSpec.preRow_of_cond 8 hx (by kernel_rfl) (fun k hk => by cases hk; kernel_rfl) (by kernel_rfl) (laid_met os _))) ?_
  intro W base args ds gs before hval hW _ hk _ hL hS _
  exact contract H enc W base args ds gs before hval hW (hk _ rfl) hL hS

theorem said : Rows.LineBackUptoSaid :=
  OpenClaim.holds_of_cond 5 Tryd.f5 rfl rfl rfl rfl rfl rfl rfl ⟨rfl, rfl, rfl, rfl, rfl⟩ rfl rfl rfl rfl rfl (by kernel_rfl) Tryd.func5 (by kernel_rfl)
    (of_decide_eq_true (by kernel_rfl)) (by unfold Func.isWrapper; first | (rw [if_pos (by decide +kernel)]; kernel_rfl) | (rw [if_neg (by decide +kernel)]; exact ⟨rfl, rfl⟩))
    (fun os started H enc _ F => by rw [OpenClaim.pre_eq_preRow]; exact lifted os started H enc F)

theorem plain (f : FuncId) (fn : Func) (hf : Tryd.pinned.checked.prog.funcNamed "almanac/almanaclaw11.LineBack" = some f) (hfn : Tryd.pinned.checked.prog.funcs[f]? = some fn) :
    false = Tryd.pinned.checked.prog.looks [] ∧ ∀ (j : Nat) t, fn.params[j]? = some t → Tryd.pinned.checked.prog.wantsStandIn t = false := by
  obtain rfl : f = 5 := Option.some.inj ((show Tryd.prog.funcNamed "almanac/almanaclaw11.LineBack" = some 5 by kernel_rfl).symm.trans hf) |>.symm
  obtain rfl : fn = Tryd.f5 := (Option.some.inj (Tryd.func5.symm.trans hfn)).symm
  refine ⟨by kernel_rfl, fun j t ht => ?_⟩
  rw [Tryd.params5] at ht
  have hm : t ∈ [24, 38] := by simpa using Array.mem_of_getElem? ht
  have hall : ([24, 38].all fun u => !Tryd.prog.wantsStandIn u) = true := by kernel_rfl
  exact (show Tryd.prog.wantsStandIn t = false by simpa using List.all_eq_true.1 hall t hm)

theorem proved : Rows.LineBackUptoCardSaid :=
  Claim7.holds_tied_plain_at .later [] _ _ _ _ said (fun _ h => by cases h) (by kernel_rfl) (fun _ h => by cases h) lineBackUpto_row_tie rfl ⟨rfl, rfl⟩ (by kernel_rfl) rfl plain (by kernel_rfl)
end Go.Proofs.YtkkckfnkejijdaaDoor.lineBack
