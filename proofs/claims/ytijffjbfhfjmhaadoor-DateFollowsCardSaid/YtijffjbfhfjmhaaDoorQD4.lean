/- DateFollows: days follow one another without a gap, later stamps are greater texts: any numbers; the listed tables tied to the text of the program. -/
import Derived.Test.YtijffjbfhfjmhaaDoorRows
import Derived.Test.YtijffjbfhfjmhaaDoorM2
import Derived.WalkKit
import Derived.ProofKit
import Derived.OpenShut
import Derived.JoinedCond
import Derived.Test.YtijffjbfhfjmhaaDoorCards
import Derived.Test.YtijffjbfhfjmhaaDoorTie
import Derived.Test.YtijffjbfhfjmhaaDoorM5
import Derived.Lib.LaidTab
import Derived.Lib.LaidU8
import Derived.Deep.DeepHandedRow
import Derived.Test.YtijffjbfhfjmhaaDoorM9
import Derived.SevenTiedAt
/- Statements, closed: what is below the call's world stays, so the statement's last word holds. -/
namespace Go.Abs
open Go.RowKit Go.ChangeShapes Go.WideShapes Go.ChangeAt

variable {H : Type} {enc : TypeId × Value → H} {P : Program}

theorem post_of_below {f : Func} {s : ChangeSpec} {apart fresh handsOn : Bool} {W W' : World} {args : Array Value} {v : Value} {ds gs : List (DataW H)} {before pa pv : List MemPlace}
    (hW : DataW.Whole enc P f.params.toList s.vars apart W args.toList ds gs before)
    (hres : ∀ (b : Nat) (sp : Nat → Bool) (hd : Bool), DataW.TrodAll enc P W' b sp hd f.resultTypes.toList (v.resultList f.resultTypes.size) (s.fn H (ds ++ gs)).results [])
    (hargs : ∀ sp : Nat → Bool, (∀ p ∈ before, sp p.block = true) → DataW.TrodAll enc P W' 0 sp true f.params.toList args.toList (s.fn H (ds ++ gs)).args pa)
    (hvars : ∀ sp : Nat → Bool, (∀ p ∈ before, sp p.block = true) → DataW.TrodVars enc P W' sp s.vars (s.fn H (ds ++ gs)).vars pv)
    (hb : Below W.heap.size W W') :
    s.post enc P f apart fresh handsOn false W args v W' := by
  have hold : ∀ p ∈ before, (fun b => decide (b < W.heap.size)) p.block = true := fun p hp => by simpa using hW.lt p hp
  exact ⟨ds, gs, before, [], pa, pv, hW, hres _ _ _, hargs _ hold, hvars _ hold, hb.frame _, fun h => by cases h⟩

theorem str_eq (s : ByteArray) : Value.string ⟨s.data.toList.toArray⟩ = .string s := by simp

theorem wf_u64 {n : Int} (h : (Lit.int .u64 n).wf = true) : 0 ≤ n ∧ n ≤ 18446744073709551615 := by simpa [Lit.wf, IntKind.min, IntKind.max, IntKind.signed, IntKind.bits] using h
theorem wf_i64 {n : Int} (h : (Lit.int .i64 n).wf = true) : -9223372036854775808 ≤ n ∧ n ≤ 9223372036854775807 := by simpa [Lit.wf, IntKind.min, IntKind.max, IntKind.signed, IntKind.bits] using h
end Go.Abs

/- Layer 10's statements: what the listed tables give; a world for the witness. -/
namespace Go.Almanac
open Go.RowKit Go.Proofs Go.Abs Go.Proofs.YtijffjbfhfjmhaaDoor

set_option maxRecDepth 100000

theorem own : ownKnob Tryd.prog.godebug = none := by kernel_rfl

theorem pow_data : (Rows.laid_internal_strconv_uint64pow10 : DataW Unit) = Lib.tabData .u64 Lib.pow10Tab := by kernel_rfl

/-- What the row's list gives. -/
theorem wf_of_laid {W : World} (h : laidMetH Tryd.prog [("math/bits.deBruijn32tab", Rows.laid_math_bits_deBruijn32tab), ("math/bits.deBruijn64tab", Rows.laid_math_bits_deBruijn64tab), ("internal/strconv.uint64pow10", Rows.laid_internal_strconv_uint64pow10)] W) : Wf W.heap.size W := by
  have h' : laidMet Tryd.prog [("math/bits.deBruijn32tab", Rows.laid_math_bits_deBruijn32tab), ("math/bits.deBruijn64tab", Rows.laid_math_bits_deBruijn64tab), ("internal/strconv.uint64pow10", Rows.laid_internal_strconv_uint64pow10)] W := h
  have hr := Lib.laidMet.reads h' (.tail _ (.tail _ (.head _)))
  rw [pow_data] at hr
  have ht : Lib.TabIs Tryd.prog W "internal/strconv.uint64pow10" .u64 Lib.pow10Tab := by
    obtain ⟨g, t, cs, fuel, p, hg, hty, hvar, hd⟩ := hr
    obtain rfl := Option.some.inj ((show Tryd.prog.globalNamed "internal/strconv.uint64pow10" = some 0 by kernel_rfl).symm.trans hg)
    obtain rfl := Option.some.inj ((show (Tryd.prog.globals[0]?).map (·.type) = some 94 by kernel_rfl).symm.trans hty)
    unfold Lib.TabIs
    rw [hvar, ← Lib.cells_of_tab (e := 81) (n := 20) (by kernel_rfl) (by kernel_rfl) (by kernel_rfl) (by kernel_rfl) hd]
  refine ⟨?_, ht⟩
  have hg : Tryd.prog.globalNamed "internal/strconv.uint64pow10" = some 0 := by kernel_rfl
  unfold Lib.TabIs World.var? at ht
  rw [hg] at ht
  simp only [Option.bind_some] at ht
  rcases Nat.lt_or_ge 0 W.heap.size with h2 | h2
  · exact h2
  · rw [Array.getElem?_eq_none h2] at ht; cases ht

def bruijn32 : List Int := [0, 1, 28, 2, 29, 14, 24, 3, 30, 22, 20, 15, 25, 17, 4, 8, 31, 27, 13, 23, 21, 19, 16, 7, 26, 12, 18, 6, 11, 5, 10, 9]
def bruijn64 : List Int := [0, 1, 56, 2, 57, 49, 28, 3, 61, 58, 42, 50, 38, 29, 17, 4, 62, 47, 59, 36, 45, 43, 51, 22, 53, 39, 33, 30, 24, 18, 12, 5, 63, 55, 48, 27, 60, 41, 37, 16, 46, 35, 44, 21, 52, 32, 23, 11, 54, 26, 40, 15, 34, 20, 31, 10, 25, 14, 19, 9, 13, 8, 7, 6]
/-- The witness's world: the settled one, the tables holding what their initialisers lay. -/
noncomputable def laidWorld (os : Os) : World :=
  let w0 := World.holding Tryd.prog os ⟨#[], #[], []⟩
  let put (h : Array Obj) (g : Nat) (cs : Array Value) : Array Obj := h.modify g fun
    | .cells _ t frozen => .cells cs t frozen
    | o => o
  { w0 with heap := put (put (put w0.heap 0 (Lib.pow10Tab.map fun z => Value.int .u64 z).toArray) 2 (bruijn32.map fun z => Value.int .u8 z).toArray) 3 (bruijn64.map fun z => Value.int .u8 z).toArray }
theorem laid_met (os : Os) (args : Array Value) : laidMet Tryd.prog [("math/bits.deBruijn32tab", Rows.laid_math_bits_deBruijn32tab), ("math/bits.deBruijn64tab", Rows.laid_math_bits_deBruijn64tab), ("internal/strconv.uint64pow10", Rows.laid_internal_strconv_uint64pow10)] ((laidWorld os).forCall (fun _ _ => 0) ⟨#[], args, []⟩).memory := by
  exact laidMet_of_run' 8 (by kernel_rfl) (by kernel_rfl)
end Go.Almanac

/- Dates, plain: later stamps are greater texts; days follow one another. -/
namespace Go.Almanac
open Go.RowKit Go.Proofs Go.Abs

set_option linter.unusedSimpArgs false
set_option linter.unusedVariables false
set_option linter.unusedSectionVars false
set_option maxRecDepth 10000

theorem less_pad : ∀ (w a b : Nat) (s t : List UInt8), a < 10 ^ w → b < 10 ^ w → Op.bytesLess (padN w a ++ s) (padN w b ++ t) = if a = b then Op.bytesLess s t else decide (a < b)
  | 0, a, b, s, t, ha, hb => by
    simp only [Nat.pow_zero] at ha hb
    rw [if_pos (by omega)]; rfl
  | w + 1, a, b, s, t, ha, hb => by
    have hp : 0 < 10 ^ w := Nat.pow_pos (by omega)
    have da : a / 10 ^ w < 10 := by rw [Nat.div_lt_iff_lt_mul hp, Nat.mul_comm, ← Nat.pow_succ]; exact ha
    have db : b / 10 ^ w < 10 := by rw [Nat.div_lt_iff_lt_mul hp, Nat.mul_comm, ← Nat.pow_succ]; exact hb
    have ih := less_pad w (a % 10 ^ w) (b % 10 ^ w) s t (Nat.mod_lt _ hp) (Nat.mod_lt _ hp)
    rw [padN_mod', padN_mod'] at ih
    have ea := Nat.div_add_mod a (10 ^ w)
    have eb := Nat.div_add_mod b (10 ^ w)
    have ma := Nat.mod_lt a hp
    have mb := Nat.mod_lt b hp
    rw [padN_front, padN_front, Nat.mod_eq_of_lt da, Nat.mod_eq_of_lt db]
    simp only [List.cons_append, List.nil_append, Op.bytesLess]
    rw [ih]
    generalize a / 10 ^ w = x at *
    generalize b / 10 ^ w = y at *
    generalize a % 10 ^ w = x' at *
    generalize b % 10 ^ w = y' at *
    generalize 10 ^ w = p at *
    have hx : (UInt8.ofNat (48 + x)).toNat = 48 + x := by simp only [UInt8.toNat_ofNat']; omega
    have hy : (UInt8.ofNat (48 + y)).toNat = 48 + y := by simp only [UInt8.toNat_ofNat']; omega
    rcases Nat.lt_trichotomy x y with h | h | h
    · have h1 : UInt8.ofNat (48 + x) < UInt8.ofNat (48 + y) := by rw [UInt8.lt_iff_toNat_lt, hx, hy]; omega
      have h2 : a < b := by
        have : p * (x + 1) ≤ p * y := Nat.mul_le_mul_left _ h
        rw [Nat.mul_add] at this; omega
      rw [if_neg (by omega : ¬ a = b), decide_eq_true h1, Bool.true_or, decide_eq_true h2]
    · subst h
      have h1 : ¬ UInt8.ofNat (48 + x) < UInt8.ofNat (48 + x) := by rw [UInt8.lt_iff_toNat_lt]; omega
      simp only [h1, decide_false, beq_self_eq_true, Bool.true_and, Bool.false_or]
      by_cases h3 : x' = y'
      · rw [if_pos h3, if_pos (by omega)]
      · rw [if_neg h3, if_neg (by omega)]
        by_cases h4 : x' < y'
        · simp [h4, show a < b by omega]
        · simp [h4, show ¬ a < b by omega]
    · have h1 : ¬ UInt8.ofNat (48 + x) < UInt8.ofNat (48 + y) := by rw [UInt8.lt_iff_toNat_lt, hx, hy]; omega
      have h0 : ¬ UInt8.ofNat (48 + x) = UInt8.ofNat (48 + y) := fun e => by
        have := congrArg UInt8.toNat e
        rw [hx, hy] at this; omega
      have h2 : b < a := by
        have : p * (y + 1) ≤ p * x := Nat.mul_le_mul_left _ h
        rw [Nat.mul_add] at this; omega
      rw [if_neg (by omega : ¬ a = b), decide_eq_false h1, Bool.false_or, beq_eq_false_iff_ne.2 h0, Bool.false_and, decide_eq_false (by omega)]

/-- A day as one number whose order is the days'. -/
noncomputable def ymd (n : Int) : Int := (civ n).1 * 10000 + (civ n).2.1 * 100 + (civ n).2.2.1
theorem ymd_lt {n n' : Int} (h : (civ n).2.2.2 = true) (h' : (civ n').2.2.2 = true) (hl : n < n') : ymd n < ymd n' := by
  obtain ⟨_, _, q⟩ := civ_in (civ_ok h) h
  obtain ⟨_, _, q'⟩ := civ_in (civ_ok h') h'
  have hb := civ_bounds (civ_ok h) h
  have hb' := civ_bounds (civ_ok h') h'
  have w := isCivil_year q
  have w' := isCivil_year q'
  unfold ymd
  generalize (civ n).1 = y at *
  generalize (civ n).2.1 = m at *
  generalize (civ n).2.2.1 = d at *
  generalize (civ n').1 = y' at *
  generalize (civ n').2.1 = m' at *
  generalize (civ n').2.2.1 = d' at *
  rcases (show y < y' ∨ y = y' ∨ y' + 1 ≤ y by omega) with e | e | e
  · omega
  · subst e
    obtain ⟨h1, h2, h3, h4, h5, h6, h7⟩ := q
    obtain ⟨_, _, h3', h4', h5', h6', h7'⟩ := q'
    rw [mlen_get (by omega) ⟨h3', h4'⟩] at h6'
    rcases (show m < m' ∨ m = m' ∨ (m' - 1).toNat + 1 ≤ (m - 1).toNat by omega) with e | e | e
    · omega
    · subst e; omega
    · have := psum_mono y e; rw [psum] at this; omega
  · have := first_mono (by omega) e; omega
theorem hms_lt {r r' : Int} (h0 : 0 ≤ r) (h1 : r < r') (h2 : r' < 86400) : r / 3600 * 10000 + r / 60 % 60 * 100 + r % 60 < r' / 3600 * 10000 + r' / 60 % 60 * 100 + r' % 60 := by
  have e1 : r / 3600 = r / 60 / 60 := by omega
  have e2 : r' / 3600 = r' / 60 / 60 := by omega
  rw [e1, e2]
  have f1 : r = r / 60 * 60 + r % 60 := by omega
  have f2 : r' = r' / 60 * 60 + r' % 60 := by omega
  have g1 : 0 ≤ r % 60 ∧ r % 60 < 60 := by omega
  have g2 : 0 ≤ r' % 60 ∧ r' % 60 < 60 := by omega
  generalize r / 60 = q at *
  generalize r' / 60 = q' at *
  generalize r % 60 = z at *
  generalize r' % 60 = z' at *
  omega

theorem stamp_form {t : Int} (hi : inT t = true) : stampF t = padN 8 (ymd (t / 86400)).toNat ++ ([84] ++ (padN 6 (t % 86400 / 3600 * 10000 + t % 86400 / 60 % 60 * 100 + t % 86400 % 60).toNat ++ [])) := by
  have hc := civ_inT hi
  have hb := civ_bounds (civ_ok hc) hc
  have e : (ymd (t / 86400)).toNat = (civ (t / 86400)).1.toNat * 10000 + (civ (t / 86400)).2.1.toNat * 100 + (civ (t / 86400)).2.2.1.toNat := by unfold ymd; omega
  rw [stampF, if_pos hi, dayF, if_pos hc, clock6 (by omega) (by omega), e, ← pad8 (by omega) (by omega) (by omega), List.append_nil, List.append_assoc]
  rfl
theorem ymd_bounds {n : Int} (h : (civ n).2.2.2 = true) : 0 ≤ ymd n ∧ ymd n < 100000000 := by
  have hb := civ_bounds (civ_ok h) h
  unfold ymd; omega
theorem stamp_lt {t u : Int} (ht : inT t = true) (hu : inT u = true) : Op.bytesLess (stampF t) (stampF u) = decide (t < u) := by
  have b1 := ymd_bounds (civ_inT ht)
  have b2 := ymd_bounds (civ_inT hu)
  rw [stamp_form ht, stamp_form hu, less_pad 8 _ _ _ _ (by omega) (by omega)]
  have hcons : ∀ X Y : List UInt8, Op.bytesLess ([84] ++ X) ([84] ++ Y) = Op.bytesLess X Y := fun X Y => by simp [Op.bytesLess]
  rw [hcons, less_pad 6 _ _ _ _ (by omega) (by omega)]
  rcases (show t / 86400 < u / 86400 ∨ t / 86400 = u / 86400 ∨ u / 86400 < t / 86400 by omega) with h | h | h
  · have := ymd_lt (civ_inT ht) (civ_inT hu) h
    rw [if_neg (by omega)]
    exact decide_eq_decide.2 (by omega)
  · rw [h, if_pos rfl]
    rcases (show t % 86400 < u % 86400 ∨ t % 86400 = u % 86400 ∨ u % 86400 < t % 86400 by omega) with k | k | k
    · have := hms_lt (by omega) k (by omega)
      rw [if_neg (by omega)]
      exact decide_eq_decide.2 (by omega)
    · rw [k, if_pos rfl]
      have : ¬ t < u := by omega
      simp [Op.bytesLess, this]
    · have := hms_lt (by omega) k (by omega)
      rw [if_neg (by omega)]
      exact decide_eq_decide.2 (by omega)
  · have := ymd_lt (civ_inT hu) (civ_inT ht) h
    rw [if_neg (by omega)]
    exact decide_eq_decide.2 (by omega)

theorem lens_pos (y : Int) {k : Nat} (h : k < 12) : 28 ≤ (lens y).getD k 0 := by
  unfold lens
  rcases k with _ | _ | _ | _ | _ | _ | _ | _ | _ | _ | _ | _ | k <;> simp
  · split <;> omega
  · omega
/-- The next day. -/
theorem civ_next {n y m d : Int} (hc : civ n = (y, m, d, true)) (hn : n < 2932896) : (d < mlen y m ∧ civ (n + 1) = (y, m, d + 1, true)) ∨ (d = mlen y m ∧ m < 12 ∧ civ (n + 1) = (y, m + 1, 1, true)) ∨ (d = mlen y m ∧ m = 12 ∧ civ (n + 1) = (y + 1, 1, 1, true)) := by
  have hb : (civ n).2.2.2 = true := by rw [hc]
  obtain ⟨q1, q2, q3⟩ := civ_in (civ_ok hb) hb
  rw [hc] at q3
  dsimp only at q3
  obtain ⟨h1, h2, h3, h4, h5, h6, h7⟩ := q3
  have hml := mlen_get (y := y) (m := m) (by omega) ⟨h3, h4⟩
  have hps : psum y ((m - 1).toNat + 1) = psum y (m - 1).toNat + mlen y m := by rw [psum, hml]
  by_cases hd : d < mlen y m
  · exact .inl ⟨hd, civ_eq (.inr ⟨rfl, by omega, by omega, h1, h2, h3, h4, by omega, by omega, by omega⟩)⟩
  · by_cases hm : m < 12
    · refine .inr (.inl ⟨by omega, hm, civ_eq (.inr ⟨rfl, by omega, by omega, h1, h2, by omega, by omega, by omega, ?_, ?_⟩)⟩)
      · have := lens_pos y (k := (m + 1 - 1).toNat) (by omega)
        rw [mlen_get (by omega) (by omega)]; omega
      · rw [show (m + 1 - 1).toNat = (m - 1).toNat + 1 from by omega, hps]; omega
    · have hm12 : m = 12 := by omega
      subst hm12
      have hn12 := first_next h1
      have e12 : psum y 12 = psum y ((12 : Int) - 1).toNat + mlen y 12 := hps
      have hy : y ≤ 9998 := by
        rcases (show y ≤ 9998 ∨ y = 9999 by omega) with h | h
        · exact h
        · subst h
          have : first (9999 + 1) = 2932897 := rfl
          omega
      refine .inr (.inr ⟨by omega, rfl, civ_eq (.inr ⟨rfl, by omega, by omega, by omega, by omega, by omega, by omega, by omega, ?_, ?_⟩)⟩)
      · have := lens_pos (y + 1) (k := ((1 : Int) - 1).toNat) (by decide)
        rw [mlen_get (by omega) (by omega)]; omega
      · show first (y + 1) + psum (y + 1) 0 + 1 - 1 = n + 1
        rw [psum]; omega
end Go.Almanac

/- Dates: DateFollows, as walked. -/
namespace Go.Almanac
open Go.RowKit Go.Proofs Go.Abs

set_option linter.unusedSimpArgs false
set_option linter.unusedVariables false
set_option linter.unusedSectionVars false
set_option maxRecDepth 10000

theorem l_DateFollows (G : Nat → AV) (n t u : Int) (n0 : -9223372036854775808 ≤ n) (n1 : n ≤ 9223372036854775807) (t0 : -9223372036854775808 ≤ t) (t1 : t ≤ 9223372036854775807) (u0 : -9223372036854775808 ≤ u) (u1 : u ≤ 9223372036854775807) (st : St) : ACalls (Ev G) 4 [.int .i64 n, .int .i64 t, .int .i64 u] st (fun e st' => st' = st ∧ e = .ret (.bool true)) := by
  refine ACalls.of_body Tryd.func4 rfl ?_
  rw [Tryd.ntmps4]
  simp only [List.length_cons, List.length_nil, Nat.reduceAdd, Nat.reduceSub, List.replicate_succ, List.replicate_zero, List.cons_append, List.nil_append]
  (repeat' (first | refine AW.seq ?_ | refine AW.scope ?_ | refine AW.label ?_ | refine AW.block ?_ | refine AW.skip ?_ | refine AW.exit ?_ | refine AW.ret ?_ | (refine AW.regionC fun Q' Kn hQ hK hK' => ?_; simp (disch := omega) only [go_sem, Nat.reduceAdd, Int.reduceToNat, Nat.min_eq_left, Int.reducePow, fdivp, shr_nat, tmodp, tdivp, Int.toNat_natCast, and_1_u8, and_3_u8, and_7_u8, and_15_u8, and_31_u8, and_63_u8, and_127_u8, and_1_u32, and_3_u32, and_7_u32, and_15_u32, and_31_u32, and_63_u32, and_127_u32, and_1_u64, and_3_u64, and_7_u64, and_15_u64, and_31_u64, and_63_u64, and_127_u64, and_1_i32, and_3_i32, and_7_i32, and_15_i32, and_31_i32, and_63_i32, and_127_i32, and_1_i64, and_3_i64, and_7_i64, and_15_i64, and_31_i64, and_63_i64, and_127_i64, w_i64, w_u64, w_u8, w_u32, w_i32]; (try simp (disch := omega) only [go_sem, Nat.reduceAdd, Int.reduceToNat, Nat.min_eq_left, Int.reducePow, fdivp, shr_nat, tmodp, tdivp, Int.toNat_natCast, and_1_u8, and_3_u8, and_7_u8, and_15_u8, and_31_u8, and_63_u8, and_127_u8, and_1_u32, and_3_u32, and_7_u32, and_15_u32, and_31_u32, and_63_u32, and_127_u32, and_1_u64, and_3_u64, and_7_u64, and_15_u64, and_31_u64, and_63_u64, and_127_u64, and_1_i32, and_3_i32, and_7_i32, and_15_i32, and_31_i32, and_63_i32, and_127_i32, and_1_i64, and_3_i64, and_7_i64, and_15_i64, and_31_i64, and_63_i64, and_127_i64, w_i64, w_u64, w_u8, w_u32, w_i32]); (repeat' refine And.intro ?_ ?_); (try any_goals (first | (refine hK _ _ ?_; clear hK' hQ hK Q' Kn) | (simp; done) | omega | (simp only [List.length_append, List.length_cons, List.length_nil]; omega) | (simp; omega)))) | (refine AW.cond (by simp (disch := omega) only [go_sem, Nat.reduceAdd, Int.reduceToNat, Nat.min_eq_left, Int.reducePow, fdivp, shr_nat, tmodp, tdivp, Int.toNat_natCast, and_1_u8, and_3_u8, and_7_u8, and_15_u8, and_31_u8, and_63_u8, and_127_u8, and_1_u32, and_3_u32, and_7_u32, and_15_u32, and_31_u32, and_63_u32, and_127_u32, and_1_u64, and_3_u64, and_7_u64, and_15_u64, and_31_u64, and_63_u64, and_127_u64, and_1_i32, and_3_i32, and_7_i32, and_15_i32, and_31_i32, and_63_i32, and_127_i32, and_1_i64, and_3_i64, and_7_i64, and_15_i64, and_31_i64, and_63_i64, and_127_i64, w_i64, w_u64, w_u8, w_u32, w_i32]; rfl) (fun hb => ?_) (fun hb => ?_) <;> (try simp only [Bool.or_eq_true, Bool.and_eq_true, Bool.or_eq_false_iff, Bool.and_eq_false_iff, decide_eq_true_eq, decide_eq_false_iff_not, beq_iff_eq, bne_iff_ne, Bool.not_eq_true', beq_eq_false_iff_ne, bne_eq_false_iff_eq, ne_eq, Bool.not_eq_false', Bool.true_eq_false, Bool.false_eq_true, Bool.false_or, Bool.true_or, Bool.false_and, Bool.true_and, false_or, or_false, true_and, and_true] at hb))))
  refine AOp.call rfl (by simp only [go_sem]; rfl) (by simp [go_sem]) rfl (ACalls.mono (by simp only [go_sem]; exact t_In G t _) ?_)
  rintro e st' ⟨rfl, rfl⟩
  rw [show (decide (-62135596800 ≤ t) && decide (t ≤ 253402300799)) = inT t from rfl]
  (refine AOpsC_ok hK' _ _ _ ?_; simp (disch := omega) only [go_sem, Nat.reduceAdd, Int.reduceToNat, Nat.min_eq_left, Int.reducePow, fdivp, shr_nat, tmodp, tdivp, Int.toNat_natCast, and_1_u8, and_3_u8, and_7_u8, and_15_u8, and_31_u8, and_63_u8, and_127_u8, and_1_u32, and_3_u32, and_7_u32, and_15_u32, and_31_u32, and_63_u32, and_127_u32, and_1_u64, and_3_u64, and_7_u64, and_15_u64, and_31_u64, and_63_u64, and_127_u64, and_1_i32, and_3_i32, and_7_i32, and_15_i32, and_31_i32, and_63_i32, and_127_i32, and_1_i64, and_3_i64, and_7_i64, and_15_i64, and_31_i64, and_63_i64, and_127_i64, w_i64, w_u64, w_u8, w_u32, w_i32]; (try simp (disch := omega) only [go_sem, Nat.reduceAdd, Int.reduceToNat, Nat.min_eq_left, Int.reducePow, fdivp, shr_nat, tmodp, tdivp, Int.toNat_natCast, and_1_u8, and_3_u8, and_7_u8, and_15_u8, and_31_u8, and_63_u8, and_127_u8, and_1_u32, and_3_u32, and_7_u32, and_15_u32, and_31_u32, and_63_u32, and_127_u32, and_1_u64, and_3_u64, and_7_u64, and_15_u64, and_31_u64, and_63_u64, and_127_u64, and_1_i32, and_3_i32, and_7_i32, and_15_i32, and_31_i32, and_63_i32, and_127_i32, and_1_i64, and_3_i64, and_7_i64, and_15_i64, and_31_i64, and_63_i64, and_127_i64, w_i64, w_u64, w_u8, w_u32, w_i32]); (repeat' refine And.intro ?_ ?_); (try any_goals (first | (refine hK _ _ ?_; clear hK' hQ hK Q' Kn) | (simp; done) | omega | (simp only [List.length_append, List.length_cons, List.length_nil]; omega) | (simp; omega))))
  refine AOps.guard_call (f := 17) (v := .bool (inT u)) rfl rfl rfl rfl rfl (fun _ => (by (first | (simp only [go_sem]; done) | (simp only [go_sem]; rfl)))) (fun h => by simpa [go_sem] using h) rfl (fun _ => by simp only [go_sem]; exact t_In G u _) ?_
  (refine AOpsC_ok hK' _ _ _ ?_; simp (disch := omega) only [go_sem, Nat.reduceAdd, Int.reduceToNat, Nat.min_eq_left, Int.reducePow, fdivp, shr_nat, tmodp, tdivp, Int.toNat_natCast, and_1_u8, and_3_u8, and_7_u8, and_15_u8, and_31_u8, and_63_u8, and_127_u8, and_1_u32, and_3_u32, and_7_u32, and_15_u32, and_31_u32, and_63_u32, and_127_u32, and_1_u64, and_3_u64, and_7_u64, and_15_u64, and_31_u64, and_63_u64, and_127_u64, and_1_i32, and_3_i32, and_7_i32, and_15_i32, and_31_i32, and_63_i32, and_127_i32, and_1_i64, and_3_i64, and_7_i64, and_15_i64, and_31_i64, and_63_i64, and_127_i64, w_i64, w_u64, w_u8, w_u32, w_i32]; (try simp (disch := omega) only [go_sem, Nat.reduceAdd, Int.reduceToNat, Nat.min_eq_left, Int.reducePow, fdivp, shr_nat, tmodp, tdivp, Int.toNat_natCast, and_1_u8, and_3_u8, and_7_u8, and_15_u8, and_31_u8, and_63_u8, and_127_u8, and_1_u32, and_3_u32, and_7_u32, and_15_u32, and_31_u32, and_63_u32, and_127_u32, and_1_u64, and_3_u64, and_7_u64, and_15_u64, and_31_u64, and_63_u64, and_127_u64, and_1_i32, and_3_i32, and_7_i32, and_15_i32, and_31_i32, and_63_i32, and_127_i32, and_1_i64, and_3_i64, and_7_i64, and_15_i64, and_31_i64, and_63_i64, and_127_i64, w_i64, w_u64, w_u8, w_u32, w_i32]); (repeat' refine And.intro ?_ ?_); (try any_goals (first | (refine hK _ _ ?_; clear hK' hQ hK Q' Kn) | (simp; done) | omega | (simp only [List.length_append, List.length_cons, List.length_nil]; omega) | (simp; omega))))
  refine AOps.guard_call (f := 20) (v := .str (stampF t)) rfl rfl rfl rfl rfl (fun _ => (by (first | (simp only [go_sem]; done) | (simp only [go_sem]; rfl)))) (fun h => by simpa [go_sem] using h) rfl (fun _ => by simp only [go_sem]; exact ACalls.mono (t_Stamp G t t0 t1 _) (fun x st1 h => ⟨h.1, h.2.2⟩)) ?_
  (refine AOpsC_ok hK' _ _ _ ?_; simp (disch := omega) only [go_sem, Nat.reduceAdd, Int.reduceToNat, Nat.min_eq_left, Int.reducePow, fdivp, shr_nat, tmodp, tdivp, Int.toNat_natCast, and_1_u8, and_3_u8, and_7_u8, and_15_u8, and_31_u8, and_63_u8, and_127_u8, and_1_u32, and_3_u32, and_7_u32, and_15_u32, and_31_u32, and_63_u32, and_127_u32, and_1_u64, and_3_u64, and_7_u64, and_15_u64, and_31_u64, and_63_u64, and_127_u64, and_1_i32, and_3_i32, and_7_i32, and_15_i32, and_31_i32, and_63_i32, and_127_i32, and_1_i64, and_3_i64, and_7_i64, and_15_i64, and_31_i64, and_63_i64, and_127_i64, w_i64, w_u64, w_u8, w_u32, w_i32]; (try simp (disch := omega) only [go_sem, Nat.reduceAdd, Int.reduceToNat, Nat.min_eq_left, Int.reducePow, fdivp, shr_nat, tmodp, tdivp, Int.toNat_natCast, and_1_u8, and_3_u8, and_7_u8, and_15_u8, and_31_u8, and_63_u8, and_127_u8, and_1_u32, and_3_u32, and_7_u32, and_15_u32, and_31_u32, and_63_u32, and_127_u32, and_1_u64, and_3_u64, and_7_u64, and_15_u64, and_31_u64, and_63_u64, and_127_u64, and_1_i32, and_3_i32, and_7_i32, and_15_i32, and_31_i32, and_63_i32, and_127_i32, and_1_i64, and_3_i64, and_7_i64, and_15_i64, and_31_i64, and_63_i64, and_127_i64, w_i64, w_u64, w_u8, w_u32, w_i32]); (repeat' refine And.intro ?_ ?_); (try any_goals (first | (refine hK _ _ ?_; clear hK' hQ hK Q' Kn) | (simp; done) | omega | (simp only [List.length_append, List.length_cons, List.length_nil]; omega) | (simp; omega))))
  refine AOps.guard_call (f := 20) (v := .str (stampF u)) rfl rfl rfl rfl rfl (fun _ => (by (first | (simp only [go_sem]; done) | (simp only [go_sem]; rfl)))) (fun h => by simpa [go_sem] using h) rfl (fun _ => by simp only [go_sem]; exact ACalls.mono (t_Stamp G u u0 u1 _) (fun x st1 h => ⟨h.1, h.2.2⟩)) ?_
  (refine AOpsC_ok hK' _ _ _ ?_; simp (disch := omega) only [go_sem, Nat.reduceAdd, Int.reduceToNat, Nat.min_eq_left, Int.reducePow, fdivp, shr_nat, tmodp, tdivp, Int.toNat_natCast, and_1_u8, and_3_u8, and_7_u8, and_15_u8, and_31_u8, and_63_u8, and_127_u8, and_1_u32, and_3_u32, and_7_u32, and_15_u32, and_31_u32, and_63_u32, and_127_u32, and_1_u64, and_3_u64, and_7_u64, and_15_u64, and_31_u64, and_63_u64, and_127_u64, and_1_i32, and_3_i32, and_7_i32, and_15_i32, and_31_i32, and_63_i32, and_127_i32, and_1_i64, and_3_i64, and_7_i64, and_15_i64, and_31_i64, and_63_i64, and_127_i64, w_i64, w_u64, w_u8, w_u32, w_i32]; (try simp (disch := omega) only [go_sem, Nat.reduceAdd, Int.reduceToNat, Nat.min_eq_left, Int.reducePow, fdivp, shr_nat, tmodp, tdivp, Int.toNat_natCast, and_1_u8, and_3_u8, and_7_u8, and_15_u8, and_31_u8, and_63_u8, and_127_u8, and_1_u32, and_3_u32, and_7_u32, and_15_u32, and_31_u32, and_63_u32, and_127_u32, and_1_u64, and_3_u64, and_7_u64, and_15_u64, and_31_u64, and_63_u64, and_127_u64, and_1_i32, and_3_i32, and_7_i32, and_15_i32, and_31_i32, and_63_i32, and_127_i32, and_1_i64, and_3_i64, and_7_i64, and_15_i64, and_31_i64, and_63_i64, and_127_i64, w_i64, w_u64, w_u8, w_u32, w_i32]); (repeat' refine And.intro ?_ ?_); (try any_goals (first | (refine hK _ _ ?_; clear hK' hQ hK Q' Kn) | (simp; done) | omega | (simp only [List.length_append, List.length_cons, List.length_nil]; omega) | (simp; omega))))
  (repeat' (first | refine AW.seq ?_ | refine AW.scope ?_ | refine AW.label ?_ | refine AW.block ?_ | refine AW.skip ?_ | refine AW.exit ?_ | refine AW.ret ?_ | (refine AW.regionC fun Q' Kn hQ hK hK' => ?_; simp (disch := omega) only [go_sem, Nat.reduceAdd, Int.reduceToNat, Nat.min_eq_left, Int.reducePow, fdivp, shr_nat, tmodp, tdivp, Int.toNat_natCast, and_1_u8, and_3_u8, and_7_u8, and_15_u8, and_31_u8, and_63_u8, and_127_u8, and_1_u32, and_3_u32, and_7_u32, and_15_u32, and_31_u32, and_63_u32, and_127_u32, and_1_u64, and_3_u64, and_7_u64, and_15_u64, and_31_u64, and_63_u64, and_127_u64, and_1_i32, and_3_i32, and_7_i32, and_15_i32, and_31_i32, and_63_i32, and_127_i32, and_1_i64, and_3_i64, and_7_i64, and_15_i64, and_31_i64, and_63_i64, and_127_i64, w_i64, w_u64, w_u8, w_u32, w_i32]; (try simp (disch := omega) only [go_sem, Nat.reduceAdd, Int.reduceToNat, Nat.min_eq_left, Int.reducePow, fdivp, shr_nat, tmodp, tdivp, Int.toNat_natCast, and_1_u8, and_3_u8, and_7_u8, and_15_u8, and_31_u8, and_63_u8, and_127_u8, and_1_u32, and_3_u32, and_7_u32, and_15_u32, and_31_u32, and_63_u32, and_127_u32, and_1_u64, and_3_u64, and_7_u64, and_15_u64, and_31_u64, and_63_u64, and_127_u64, and_1_i32, and_3_i32, and_7_i32, and_15_i32, and_31_i32, and_63_i32, and_127_i32, and_1_i64, and_3_i64, and_7_i64, and_15_i64, and_31_i64, and_63_i64, and_127_i64, w_i64, w_u64, w_u8, w_u32, w_i32]); (repeat' refine And.intro ?_ ?_); (try any_goals (first | (refine hK _ _ ?_; clear hK' hQ hK Q' Kn) | (simp; done) | omega | (simp only [List.length_append, List.length_cons, List.length_nil]; omega) | (simp; omega)))) | (refine AW.cond (by simp (disch := omega) only [go_sem, Nat.reduceAdd, Int.reduceToNat, Nat.min_eq_left, Int.reducePow, fdivp, shr_nat, tmodp, tdivp, Int.toNat_natCast, and_1_u8, and_3_u8, and_7_u8, and_15_u8, and_31_u8, and_63_u8, and_127_u8, and_1_u32, and_3_u32, and_7_u32, and_15_u32, and_31_u32, and_63_u32, and_127_u32, and_1_u64, and_3_u64, and_7_u64, and_15_u64, and_31_u64, and_63_u64, and_127_u64, and_1_i32, and_3_i32, and_7_i32, and_15_i32, and_31_i32, and_63_i32, and_127_i32, and_1_i64, and_3_i64, and_7_i64, and_15_i64, and_31_i64, and_63_i64, and_127_i64, w_i64, w_u64, w_u8, w_u32, w_i32]; rfl) (fun hb => ?_) (fun hb => ?_) <;> (try simp only [Bool.or_eq_true, Bool.and_eq_true, Bool.or_eq_false_iff, Bool.and_eq_false_iff, decide_eq_true_eq, decide_eq_false_iff_not, beq_iff_eq, bne_iff_ne, Bool.not_eq_true', beq_eq_false_iff_ne, bne_eq_false_iff_eq, ne_eq, Bool.not_eq_false', Bool.true_eq_false, Bool.false_eq_true, Bool.false_or, Bool.true_or, Bool.false_and, Bool.true_and, false_or, or_false, true_and, and_true] at hb))))
  · exfalso
    obtain ⟨⟨g1, g2⟩, g3⟩ := hb
    rw [stamp_lt g1 g2] at g3
    exact g3 rfl
  refine AOp.call rfl (by simp only [go_sem]; rfl) (by simp [go_sem]) rfl (ACalls.mono (by simp only [go_sem]; exact t_CivilF G n n0 n1 _) ?_)
  rintro e st' ⟨rfl, hc, rfl⟩
  (refine AOpsC_ok hK' _ _ _ ?_; simp (disch := omega) only [go_sem, Nat.reduceAdd, Int.reduceToNat, Nat.min_eq_left, Int.reducePow, fdivp, shr_nat, tmodp, tdivp, Int.toNat_natCast, and_1_u8, and_3_u8, and_7_u8, and_15_u8, and_31_u8, and_63_u8, and_127_u8, and_1_u32, and_3_u32, and_7_u32, and_15_u32, and_31_u32, and_63_u32, and_127_u32, and_1_u64, and_3_u64, and_7_u64, and_15_u64, and_31_u64, and_63_u64, and_127_u64, and_1_i32, and_3_i32, and_7_i32, and_15_i32, and_31_i32, and_63_i32, and_127_i32, and_1_i64, and_3_i64, and_7_i64, and_15_i64, and_31_i64, and_63_i64, and_127_i64, w_i64, w_u64, w_u8, w_u32, w_i32]; (try simp (disch := omega) only [go_sem, Nat.reduceAdd, Int.reduceToNat, Nat.min_eq_left, Int.reducePow, fdivp, shr_nat, tmodp, tdivp, Int.toNat_natCast, and_1_u8, and_3_u8, and_7_u8, and_15_u8, and_31_u8, and_63_u8, and_127_u8, and_1_u32, and_3_u32, and_7_u32, and_15_u32, and_31_u32, and_63_u32, and_127_u32, and_1_u64, and_3_u64, and_7_u64, and_15_u64, and_31_u64, and_63_u64, and_127_u64, and_1_i32, and_3_i32, and_7_i32, and_15_i32, and_31_i32, and_63_i32, and_127_i32, and_1_i64, and_3_i64, and_7_i64, and_15_i64, and_31_i64, and_63_i64, and_127_i64, w_i64, w_u64, w_u8, w_u32, w_i32]); (repeat' refine And.intro ?_ ?_); (try any_goals (first | (refine hK _ _ ?_; clear hK' hQ hK Q' Kn) | (simp; done) | omega | (simp only [List.length_append, List.length_cons, List.length_nil]; omega) | (simp; omega))))
  (repeat' (first | refine AW.seq ?_ | refine AW.scope ?_ | refine AW.label ?_ | refine AW.block ?_ | refine AW.skip ?_ | refine AW.exit ?_ | refine AW.ret ?_ | (refine AW.regionC fun Q' Kn hQ hK hK' => ?_; simp (disch := omega) only [go_sem, Nat.reduceAdd, Int.reduceToNat, Nat.min_eq_left, Int.reducePow, fdivp, shr_nat, tmodp, tdivp, Int.toNat_natCast, and_1_u8, and_3_u8, and_7_u8, and_15_u8, and_31_u8, and_63_u8, and_127_u8, and_1_u32, and_3_u32, and_7_u32, and_15_u32, and_31_u32, and_63_u32, and_127_u32, and_1_u64, and_3_u64, and_7_u64, and_15_u64, and_31_u64, and_63_u64, and_127_u64, and_1_i32, and_3_i32, and_7_i32, and_15_i32, and_31_i32, and_63_i32, and_127_i32, and_1_i64, and_3_i64, and_7_i64, and_15_i64, and_31_i64, and_63_i64, and_127_i64, w_i64, w_u64, w_u8, w_u32, w_i32]; (try simp (disch := omega) only [go_sem, Nat.reduceAdd, Int.reduceToNat, Nat.min_eq_left, Int.reducePow, fdivp, shr_nat, tmodp, tdivp, Int.toNat_natCast, and_1_u8, and_3_u8, and_7_u8, and_15_u8, and_31_u8, and_63_u8, and_127_u8, and_1_u32, and_3_u32, and_7_u32, and_15_u32, and_31_u32, and_63_u32, and_127_u32, and_1_u64, and_3_u64, and_7_u64, and_15_u64, and_31_u64, and_63_u64, and_127_u64, and_1_i32, and_3_i32, and_7_i32, and_15_i32, and_31_i32, and_63_i32, and_127_i32, and_1_i64, and_3_i64, and_7_i64, and_15_i64, and_31_i64, and_63_i64, and_127_i64, w_i64, w_u64, w_u8, w_u32, w_i32]); (repeat' refine And.intro ?_ ?_); (try any_goals (first | (refine hK _ _ ?_; clear hK' hQ hK Q' Kn) | (simp; done) | omega | (simp only [List.length_append, List.length_cons, List.length_nil]; omega) | (simp; omega)))) | (refine AW.cond (by simp (disch := omega) only [go_sem, Nat.reduceAdd, Int.reduceToNat, Nat.min_eq_left, Int.reducePow, fdivp, shr_nat, tmodp, tdivp, Int.toNat_natCast, and_1_u8, and_3_u8, and_7_u8, and_15_u8, and_31_u8, and_63_u8, and_127_u8, and_1_u32, and_3_u32, and_7_u32, and_15_u32, and_31_u32, and_63_u32, and_127_u32, and_1_u64, and_3_u64, and_7_u64, and_15_u64, and_31_u64, and_63_u64, and_127_u64, and_1_i32, and_3_i32, and_7_i32, and_15_i32, and_31_i32, and_63_i32, and_127_i32, and_1_i64, and_3_i64, and_7_i64, and_15_i64, and_31_i64, and_63_i64, and_127_i64, w_i64, w_u64, w_u8, w_u32, w_i32]; rfl) (fun hb => ?_) (fun hb => ?_) <;> (try simp only [Bool.or_eq_true, Bool.and_eq_true, Bool.or_eq_false_iff, Bool.and_eq_false_iff, decide_eq_true_eq, decide_eq_false_iff_not, beq_iff_eq, bne_iff_ne, Bool.not_eq_true', beq_eq_false_iff_ne, bne_eq_false_iff_eq, ne_eq, Bool.not_eq_false', Bool.true_eq_false, Bool.false_eq_true, Bool.false_or, Bool.true_or, Bool.false_and, Bool.true_and, false_or, or_false, true_and, and_true] at hb))))
  · refine AOp.call rfl (by simp only [go_sem]; rfl) (by simp [go_sem]) rfl (ACalls.mono (by simp only [go_sem]; exact l_awake G _) ?_)
    rintro e st' ⟨rfl, rfl⟩
    (refine AOpsC_ok hK' _ _ _ ?_; simp (disch := omega) only [go_sem, Nat.reduceAdd, Int.reduceToNat, Nat.min_eq_left, Int.reducePow, fdivp, shr_nat, tmodp, tdivp, Int.toNat_natCast, and_1_u8, and_3_u8, and_7_u8, and_15_u8, and_31_u8, and_63_u8, and_127_u8, and_1_u32, and_3_u32, and_7_u32, and_15_u32, and_31_u32, and_63_u32, and_127_u32, and_1_u64, and_3_u64, and_7_u64, and_15_u64, and_31_u64, and_63_u64, and_127_u64, and_1_i32, and_3_i32, and_7_i32, and_15_i32, and_31_i32, and_63_i32, and_127_i32, and_1_i64, and_3_i64, and_7_i64, and_15_i64, and_31_i64, and_63_i64, and_127_i64, w_i64, w_u64, w_u8, w_u32, w_i32]; (try simp (disch := omega) only [go_sem, Nat.reduceAdd, Int.reduceToNat, Nat.min_eq_left, Int.reducePow, fdivp, shr_nat, tmodp, tdivp, Int.toNat_natCast, and_1_u8, and_3_u8, and_7_u8, and_15_u8, and_31_u8, and_63_u8, and_127_u8, and_1_u32, and_3_u32, and_7_u32, and_15_u32, and_31_u32, and_63_u32, and_127_u32, and_1_u64, and_3_u64, and_7_u64, and_15_u64, and_31_u64, and_63_u64, and_127_u64, and_1_i32, and_3_i32, and_7_i32, and_15_i32, and_31_i32, and_63_i32, and_127_i32, and_1_i64, and_3_i64, and_7_i64, and_15_i64, and_31_i64, and_63_i64, and_127_i64, w_i64, w_u64, w_u8, w_u32, w_i32]); (repeat' refine And.intro ?_ ?_); (try any_goals (first | (refine hK _ _ ?_; clear hK' hQ hK Q' Kn) | (simp; done) | omega | (simp only [List.length_append, List.length_cons, List.length_nil]; omega) | (simp; omega))))
    (repeat' (first | refine AW.seq ?_ | refine AW.scope ?_ | refine AW.label ?_ | refine AW.block ?_ | refine AW.skip ?_ | refine AW.exit ?_ | refine AW.ret ?_ | (refine AW.regionC fun Q' Kn hQ hK hK' => ?_; simp (disch := omega) only [go_sem, Nat.reduceAdd, Int.reduceToNat, Nat.min_eq_left, Int.reducePow, fdivp, shr_nat, tmodp, tdivp, Int.toNat_natCast, and_1_u8, and_3_u8, and_7_u8, and_15_u8, and_31_u8, and_63_u8, and_127_u8, and_1_u32, and_3_u32, and_7_u32, and_15_u32, and_31_u32, and_63_u32, and_127_u32, and_1_u64, and_3_u64, and_7_u64, and_15_u64, and_31_u64, and_63_u64, and_127_u64, and_1_i32, and_3_i32, and_7_i32, and_15_i32, and_31_i32, and_63_i32, and_127_i32, and_1_i64, and_3_i64, and_7_i64, and_15_i64, and_31_i64, and_63_i64, and_127_i64, w_i64, w_u64, w_u8, w_u32, w_i32]; (try simp (disch := omega) only [go_sem, Nat.reduceAdd, Int.reduceToNat, Nat.min_eq_left, Int.reducePow, fdivp, shr_nat, tmodp, tdivp, Int.toNat_natCast, and_1_u8, and_3_u8, and_7_u8, and_15_u8, and_31_u8, and_63_u8, and_127_u8, and_1_u32, and_3_u32, and_7_u32, and_15_u32, and_31_u32, and_63_u32, and_127_u32, and_1_u64, and_3_u64, and_7_u64, and_15_u64, and_31_u64, and_63_u64, and_127_u64, and_1_i32, and_3_i32, and_7_i32, and_15_i32, and_31_i32, and_63_i32, and_127_i32, and_1_i64, and_3_i64, and_7_i64, and_15_i64, and_31_i64, and_63_i64, and_127_i64, w_i64, w_u64, w_u8, w_u32, w_i32]); (repeat' refine And.intro ?_ ?_); (try any_goals (first | (refine hK _ _ ?_; clear hK' hQ hK Q' Kn) | (simp; done) | omega | (simp only [List.length_append, List.length_cons, List.length_nil]; omega) | (simp; omega)))) | (refine AW.cond (by simp (disch := omega) only [go_sem, Nat.reduceAdd, Int.reduceToNat, Nat.min_eq_left, Int.reducePow, fdivp, shr_nat, tmodp, tdivp, Int.toNat_natCast, and_1_u8, and_3_u8, and_7_u8, and_15_u8, and_31_u8, and_63_u8, and_127_u8, and_1_u32, and_3_u32, and_7_u32, and_15_u32, and_31_u32, and_63_u32, and_127_u32, and_1_u64, and_3_u64, and_7_u64, and_15_u64, and_31_u64, and_63_u64, and_127_u64, and_1_i32, and_3_i32, and_7_i32, and_15_i32, and_31_i32, and_63_i32, and_127_i32, and_1_i64, and_3_i64, and_7_i64, and_15_i64, and_31_i64, and_63_i64, and_127_i64, w_i64, w_u64, w_u8, w_u32, w_i32]; rfl) (fun hb => ?_) (fun hb => ?_) <;> (try simp only [Bool.or_eq_true, Bool.and_eq_true, Bool.or_eq_false_iff, Bool.and_eq_false_iff, decide_eq_true_eq, decide_eq_false_iff_not, beq_iff_eq, bne_iff_ne, Bool.not_eq_true', beq_eq_false_iff_ne, bne_eq_false_iff_eq, ne_eq, Bool.not_eq_false', Bool.true_eq_false, Bool.false_eq_true, Bool.false_or, Bool.true_or, Bool.false_and, Bool.true_and, false_or, or_false, true_and, and_true] at hb))))
    (refine ⟨_, _, rfl, by simp, ?_⟩; simp only [aTup, AA.get, List.getD_cons_zero, List.getD_cons_succ, true_and])
  obtain ⟨y, m, d, hcv⟩ : ∃ y m d, civ n = (y, m, d, true) := ⟨(civ n).1, (civ n).2.1, (civ n).2.2.1, by rw [← hb.1]⟩
  have hbd := civ_bounds hc hb.1
  have hcn := civ_next hcv (by omega)
  rw [hcv] at hbd ⊢
  dsimp only at hbd ⊢
  refine AOp.call rfl (by simp only [go_sem]; rfl) (by simp [go_sem]) rfl (ACalls.mono (by simp only [go_sem]; exact t_CivilF G (n + 1) (by omega) (by omega) _) ?_)
  rintro e st' ⟨rfl, _, rfl⟩
  generalize hcv2 : civ (n + 1) = p at hcn ⊢
  obtain ⟨y', m', d', b'⟩ := p
  dsimp only
  (refine AOpsC_ok hK' _ _ _ ?_; simp (disch := omega) only [go_sem, Nat.reduceAdd, Int.reduceToNat, Nat.min_eq_left, Int.reducePow, fdivp, shr_nat, tmodp, tdivp, Int.toNat_natCast, and_1_u8, and_3_u8, and_7_u8, and_15_u8, and_31_u8, and_63_u8, and_127_u8, and_1_u32, and_3_u32, and_7_u32, and_15_u32, and_31_u32, and_63_u32, and_127_u32, and_1_u64, and_3_u64, and_7_u64, and_15_u64, and_31_u64, and_63_u64, and_127_u64, and_1_i32, and_3_i32, and_7_i32, and_15_i32, and_31_i32, and_63_i32, and_127_i32, and_1_i64, and_3_i64, and_7_i64, and_15_i64, and_31_i64, and_63_i64, and_127_i64, w_i64, w_u64, w_u8, w_u32, w_i32]; (try simp (disch := omega) only [go_sem, Nat.reduceAdd, Int.reduceToNat, Nat.min_eq_left, Int.reducePow, fdivp, shr_nat, tmodp, tdivp, Int.toNat_natCast, and_1_u8, and_3_u8, and_7_u8, and_15_u8, and_31_u8, and_63_u8, and_127_u8, and_1_u32, and_3_u32, and_7_u32, and_15_u32, and_31_u32, and_63_u32, and_127_u32, and_1_u64, and_3_u64, and_7_u64, and_15_u64, and_31_u64, and_63_u64, and_127_u64, and_1_i32, and_3_i32, and_7_i32, and_15_i32, and_31_i32, and_63_i32, and_127_i32, and_1_i64, and_3_i64, and_7_i64, and_15_i64, and_31_i64, and_63_i64, and_127_i64, w_i64, w_u64, w_u8, w_u32, w_i32]); (repeat' refine And.intro ?_ ?_); (try any_goals (first | (refine hK _ _ ?_; clear hK' hQ hK Q' Kn) | (simp; done) | omega | (simp only [List.length_append, List.length_cons, List.length_nil]; omega) | (simp; omega))))
  (repeat' (first | refine AW.seq ?_ | refine AW.scope ?_ | refine AW.label ?_ | refine AW.block ?_ | refine AW.skip ?_ | refine AW.exit ?_ | refine AW.ret ?_))
  (refine AW.regionC fun Q' Kn hQ hK hK' => ?_; simp (disch := omega) only [go_sem, Nat.reduceAdd, Int.reduceToNat, Nat.min_eq_left, Int.reducePow, fdivp, shr_nat, tmodp, tdivp, Int.toNat_natCast, and_1_u8, and_3_u8, and_7_u8, and_15_u8, and_31_u8, and_63_u8, and_127_u8, and_1_u32, and_3_u32, and_7_u32, and_15_u32, and_31_u32, and_63_u32, and_127_u32, and_1_u64, and_3_u64, and_7_u64, and_15_u64, and_31_u64, and_63_u64, and_127_u64, and_1_i32, and_3_i32, and_7_i32, and_15_i32, and_31_i32, and_63_i32, and_127_i32, and_1_i64, and_3_i64, and_7_i64, and_15_i64, and_31_i64, and_63_i64, and_127_i64, w_i64, w_u64, w_u8, w_u32, w_i32]; (try simp (disch := omega) only [go_sem, Nat.reduceAdd, Int.reduceToNat, Nat.min_eq_left, Int.reducePow, fdivp, shr_nat, tmodp, tdivp, Int.toNat_natCast, and_1_u8, and_3_u8, and_7_u8, and_15_u8, and_31_u8, and_63_u8, and_127_u8, and_1_u32, and_3_u32, and_7_u32, and_15_u32, and_31_u32, and_63_u32, and_127_u32, and_1_u64, and_3_u64, and_7_u64, and_15_u64, and_31_u64, and_63_u64, and_127_u64, and_1_i32, and_3_i32, and_7_i32, and_15_i32, and_31_i32, and_63_i32, and_127_i32, and_1_i64, and_3_i64, and_7_i64, and_15_i64, and_31_i64, and_63_i64, and_127_i64, w_i64, w_u64, w_u8, w_u32, w_i32]); (repeat' refine And.intro ?_ ?_); (try any_goals (first | (refine hK _ _ ?_; clear hK' hQ hK Q' Kn) | (simp; done) | omega | (simp only [List.length_append, List.length_cons, List.length_nil]; omega) | (simp; omega))))
  refine AOps.guard_call (f := 13) (v := .int .i64 (mlen y m)) rfl rfl rfl rfl rfl (fun _ => (by (first | (simp only [go_sem]; done) | (simp only [go_sem]; rfl)))) (fun h => by simpa [go_sem] using h) rfl (fun _ => by simp only [go_sem]; exact t_Length G y m _) ?_
  (refine AOpsC_ok hK' _ _ _ ?_; simp (disch := omega) only [go_sem, Nat.reduceAdd, Int.reduceToNat, Nat.min_eq_left, Int.reducePow, fdivp, shr_nat, tmodp, tdivp, Int.toNat_natCast, and_1_u8, and_3_u8, and_7_u8, and_15_u8, and_31_u8, and_63_u8, and_127_u8, and_1_u32, and_3_u32, and_7_u32, and_15_u32, and_31_u32, and_63_u32, and_127_u32, and_1_u64, and_3_u64, and_7_u64, and_15_u64, and_31_u64, and_63_u64, and_127_u64, and_1_i32, and_3_i32, and_7_i32, and_15_i32, and_31_i32, and_63_i32, and_127_i32, and_1_i64, and_3_i64, and_7_i64, and_15_i64, and_31_i64, and_63_i64, and_127_i64, w_i64, w_u64, w_u8, w_u32, w_i32]; (try simp (disch := omega) only [go_sem, Nat.reduceAdd, Int.reduceToNat, Nat.min_eq_left, Int.reducePow, fdivp, shr_nat, tmodp, tdivp, Int.toNat_natCast, and_1_u8, and_3_u8, and_7_u8, and_15_u8, and_31_u8, and_63_u8, and_127_u8, and_1_u32, and_3_u32, and_7_u32, and_15_u32, and_31_u32, and_63_u32, and_127_u32, and_1_u64, and_3_u64, and_7_u64, and_15_u64, and_31_u64, and_63_u64, and_127_u64, and_1_i32, and_3_i32, and_7_i32, and_15_i32, and_31_i32, and_63_i32, and_127_i32, and_1_i64, and_3_i64, and_7_i64, and_15_i64, and_31_i64, and_63_i64, and_127_i64, w_i64, w_u64, w_u8, w_u32, w_i32]); (repeat' refine And.intro ?_ ?_); (try any_goals (first | (refine hK _ _ ?_; clear hK' hQ hK Q' Kn) | (simp; done) | omega | (simp only [List.length_append, List.length_cons, List.length_nil]; omega) | (simp; omega))))
  refine AOps.guard_call (f := 13) (v := .int .i64 (mlen y m)) rfl rfl rfl rfl rfl (fun _ => (by (first | (simp only [go_sem]; done) | (simp only [go_sem]; rfl)))) (fun h => by simpa [go_sem] using h) rfl (fun _ => by simp only [go_sem]; exact t_Length G y m _) ?_
  (refine AOpsC_ok hK' _ _ _ ?_; simp (disch := omega) only [go_sem, Nat.reduceAdd, Int.reduceToNat, Nat.min_eq_left, Int.reducePow, fdivp, shr_nat, tmodp, tdivp, Int.toNat_natCast, and_1_u8, and_3_u8, and_7_u8, and_15_u8, and_31_u8, and_63_u8, and_127_u8, and_1_u32, and_3_u32, and_7_u32, and_15_u32, and_31_u32, and_63_u32, and_127_u32, and_1_u64, and_3_u64, and_7_u64, and_15_u64, and_31_u64, and_63_u64, and_127_u64, and_1_i32, and_3_i32, and_7_i32, and_15_i32, and_31_i32, and_63_i32, and_127_i32, and_1_i64, and_3_i64, and_7_i64, and_15_i64, and_31_i64, and_63_i64, and_127_i64, w_i64, w_u64, w_u8, w_u32, w_i32]; (try simp (disch := omega) only [go_sem, Nat.reduceAdd, Int.reduceToNat, Nat.min_eq_left, Int.reducePow, fdivp, shr_nat, tmodp, tdivp, Int.toNat_natCast, and_1_u8, and_3_u8, and_7_u8, and_15_u8, and_31_u8, and_63_u8, and_127_u8, and_1_u32, and_3_u32, and_7_u32, and_15_u32, and_31_u32, and_63_u32, and_127_u32, and_1_u64, and_3_u64, and_7_u64, and_15_u64, and_31_u64, and_63_u64, and_127_u64, and_1_i32, and_3_i32, and_7_i32, and_15_i32, and_31_i32, and_63_i32, and_127_i32, and_1_i64, and_3_i64, and_7_i64, and_15_i64, and_31_i64, and_63_i64, and_127_i64, w_i64, w_u64, w_u8, w_u32, w_i32]); (repeat' refine And.intro ?_ ?_); (try any_goals (first | (refine hK _ _ ?_; clear hK' hQ hK Q' Kn) | (simp; done) | omega | (simp only [List.length_append, List.length_cons, List.length_nil]; omega) | (simp; omega))))
  have h15 : (y' == y && m' == m && d' == d + 1 && decide (d < mlen y m) || d == mlen y m && d' == 1 && (y' == y && m' == m + 1 || y' == y + 1 && m' == 1 && m == 12)) = true := by
    rcases hcn with ⟨h1, h2⟩ | ⟨h1, h3, h2⟩ | ⟨h1, h3, h2⟩
    · cases h2; simp [h1]
    · cases h2; simp [h1]
    · cases h2; simp [h1, h3]
  have hbt : b' = true := by rcases hcn with ⟨h1, h2⟩ | ⟨h1, h3, h2⟩ | ⟨h1, h3, h2⟩ <;> cases h2 <;> rfl
  have hwk : (n + 1 + 3) % 7 = ((n + 3) % 7 + 1) % 7 := by omega
  rw [h15, hbt]
  (repeat' (first | refine AW.seq ?_ | refine AW.scope ?_ | refine AW.label ?_ | refine AW.block ?_ | refine AW.skip ?_ | refine AW.exit ?_ | refine AW.ret ?_))
  (refine AW.regionC fun Q' Kn hQ hK hK' => ?_; simp (disch := omega) only [go_sem, Nat.reduceAdd, Int.reduceToNat, Nat.min_eq_left, Int.reducePow, fdivp, shr_nat, tmodp, tdivp, Int.toNat_natCast, and_1_u8, and_3_u8, and_7_u8, and_15_u8, and_31_u8, and_63_u8, and_127_u8, and_1_u32, and_3_u32, and_7_u32, and_15_u32, and_31_u32, and_63_u32, and_127_u32, and_1_u64, and_3_u64, and_7_u64, and_15_u64, and_31_u64, and_63_u64, and_127_u64, and_1_i32, and_3_i32, and_7_i32, and_15_i32, and_31_i32, and_63_i32, and_127_i32, and_1_i64, and_3_i64, and_7_i64, and_15_i64, and_31_i64, and_63_i64, and_127_i64, w_i64, w_u64, w_u8, w_u32, w_i32]; (try simp (disch := omega) only [go_sem, Nat.reduceAdd, Int.reduceToNat, Nat.min_eq_left, Int.reducePow, fdivp, shr_nat, tmodp, tdivp, Int.toNat_natCast, and_1_u8, and_3_u8, and_7_u8, and_15_u8, and_31_u8, and_63_u8, and_127_u8, and_1_u32, and_3_u32, and_7_u32, and_15_u32, and_31_u32, and_63_u32, and_127_u32, and_1_u64, and_3_u64, and_7_u64, and_15_u64, and_31_u64, and_63_u64, and_127_u64, and_1_i32, and_3_i32, and_7_i32, and_15_i32, and_31_i32, and_63_i32, and_127_i32, and_1_i64, and_3_i64, and_7_i64, and_15_i64, and_31_i64, and_63_i64, and_127_i64, w_i64, w_u64, w_u8, w_u32, w_i32]); (repeat' refine And.intro ?_ ?_); (try any_goals (first | (refine hK _ _ ?_; clear hK' hQ hK Q' Kn) | (simp; done) | omega | (simp only [List.length_append, List.length_cons, List.length_nil]; omega) | (simp; omega))))
  refine AOps.guard_call (f := 15) (v := .int .i64 ((n + 1 + 3) % 7)) rfl rfl rfl rfl rfl (fun _ => (by (first | (simp only [go_sem]; done) | (simp only [go_sem]; rfl)))) (fun h => by simp [go_sem]) rfl (fun _ => by simp only [go_sem]; exact t_Weekday G (n + 1) (by omega) (by omega) _) ?_
  (refine AOpsC_ok hK' _ _ _ ?_; simp (disch := omega) only [go_sem, Nat.reduceAdd, Int.reduceToNat, Nat.min_eq_left, Int.reducePow, fdivp, shr_nat, tmodp, tdivp, Int.toNat_natCast, and_1_u8, and_3_u8, and_7_u8, and_15_u8, and_31_u8, and_63_u8, and_127_u8, and_1_u32, and_3_u32, and_7_u32, and_15_u32, and_31_u32, and_63_u32, and_127_u32, and_1_u64, and_3_u64, and_7_u64, and_15_u64, and_31_u64, and_63_u64, and_127_u64, and_1_i32, and_3_i32, and_7_i32, and_15_i32, and_31_i32, and_63_i32, and_127_i32, and_1_i64, and_3_i64, and_7_i64, and_15_i64, and_31_i64, and_63_i64, and_127_i64, w_i64, w_u64, w_u8, w_u32, w_i32]; (try simp (disch := omega) only [go_sem, Nat.reduceAdd, Int.reduceToNat, Nat.min_eq_left, Int.reducePow, fdivp, shr_nat, tmodp, tdivp, Int.toNat_natCast, and_1_u8, and_3_u8, and_7_u8, and_15_u8, and_31_u8, and_63_u8, and_127_u8, and_1_u32, and_3_u32, and_7_u32, and_15_u32, and_31_u32, and_63_u32, and_127_u32, and_1_u64, and_3_u64, and_7_u64, and_15_u64, and_31_u64, and_63_u64, and_127_u64, and_1_i32, and_3_i32, and_7_i32, and_15_i32, and_31_i32, and_63_i32, and_127_i32, and_1_i64, and_3_i64, and_7_i64, and_15_i64, and_31_i64, and_63_i64, and_127_i64, w_i64, w_u64, w_u8, w_u32, w_i32]); (repeat' refine And.intro ?_ ?_); (try any_goals (first | (refine hK _ _ ?_; clear hK' hQ hK Q' Kn) | (simp; done) | omega | (simp only [List.length_append, List.length_cons, List.length_nil]; omega) | (simp; omega))))
  refine AOps.guard_call (f := 15) (v := .int .i64 ((n + 3) % 7)) rfl rfl rfl rfl rfl (fun _ => (by (first | (simp only [go_sem]; done) | (simp only [go_sem]; rfl)))) (fun h => by simp [go_sem]) rfl (fun _ => by simp only [go_sem]; exact t_Weekday G n n0 n1 _) ?_
  (refine AOpsC_ok hK' _ _ _ ?_; simp (disch := omega) only [go_sem, Nat.reduceAdd, Int.reduceToNat, Nat.min_eq_left, Int.reducePow, fdivp, shr_nat, tmodp, tdivp, Int.toNat_natCast, and_1_u8, and_3_u8, and_7_u8, and_15_u8, and_31_u8, and_63_u8, and_127_u8, and_1_u32, and_3_u32, and_7_u32, and_15_u32, and_31_u32, and_63_u32, and_127_u32, and_1_u64, and_3_u64, and_7_u64, and_15_u64, and_31_u64, and_63_u64, and_127_u64, and_1_i32, and_3_i32, and_7_i32, and_15_i32, and_31_i32, and_63_i32, and_127_i32, and_1_i64, and_3_i64, and_7_i64, and_15_i64, and_31_i64, and_63_i64, and_127_i64, w_i64, w_u64, w_u8, w_u32, w_i32]; (try simp (disch := omega) only [go_sem, Nat.reduceAdd, Int.reduceToNat, Nat.min_eq_left, Int.reducePow, fdivp, shr_nat, tmodp, tdivp, Int.toNat_natCast, and_1_u8, and_3_u8, and_7_u8, and_15_u8, and_31_u8, and_63_u8, and_127_u8, and_1_u32, and_3_u32, and_7_u32, and_15_u32, and_31_u32, and_63_u32, and_127_u32, and_1_u64, and_3_u64, and_7_u64, and_15_u64, and_31_u64, and_63_u64, and_127_u64, and_1_i32, and_3_i32, and_7_i32, and_15_i32, and_31_i32, and_63_i32, and_127_i32, and_1_i64, and_3_i64, and_7_i64, and_15_i64, and_31_i64, and_63_i64, and_127_i64, w_i64, w_u64, w_u8, w_u32, w_i32]); (repeat' refine And.intro ?_ ?_); (try any_goals (first | (refine hK _ _ ?_; clear hK' hQ hK Q' Kn) | (simp; done) | omega | (simp only [List.length_append, List.length_cons, List.length_nil]; omega) | (simp; omega))))
  refine AOps.guard_call (f := 19) (v := .bool true) rfl rfl rfl rfl rfl (fun _ => (by (first | (simp only [go_sem]; done) | (simp only [go_sem]; rfl)))) (fun h => by simp [go_sem]) rfl (fun _ => by simp only [go_sem]; exact l_awake G _) ?_
  (refine AOpsC_ok hK' _ _ _ ?_; simp (disch := omega) only [go_sem, Nat.reduceAdd, Int.reduceToNat, Nat.min_eq_left, Int.reducePow, fdivp, shr_nat, tmodp, tdivp, Int.toNat_natCast, and_1_u8, and_3_u8, and_7_u8, and_15_u8, and_31_u8, and_63_u8, and_127_u8, and_1_u32, and_3_u32, and_7_u32, and_15_u32, and_31_u32, and_63_u32, and_127_u32, and_1_u64, and_3_u64, and_7_u64, and_15_u64, and_31_u64, and_63_u64, and_127_u64, and_1_i32, and_3_i32, and_7_i32, and_15_i32, and_31_i32, and_63_i32, and_127_i32, and_1_i64, and_3_i64, and_7_i64, and_15_i64, and_31_i64, and_63_i64, and_127_i64, w_i64, w_u64, w_u8, w_u32, w_i32]; (try simp (disch := omega) only [go_sem, Nat.reduceAdd, Int.reduceToNat, Nat.min_eq_left, Int.reducePow, fdivp, shr_nat, tmodp, tdivp, Int.toNat_natCast, and_1_u8, and_3_u8, and_7_u8, and_15_u8, and_31_u8, and_63_u8, and_127_u8, and_1_u32, and_3_u32, and_7_u32, and_15_u32, and_31_u32, and_63_u32, and_127_u32, and_1_u64, and_3_u64, and_7_u64, and_15_u64, and_31_u64, and_63_u64, and_127_u64, and_1_i32, and_3_i32, and_7_i32, and_15_i32, and_31_i32, and_63_i32, and_127_i32, and_1_i64, and_3_i64, and_7_i64, and_15_i64, and_31_i64, and_63_i64, and_127_i64, w_i64, w_u64, w_u8, w_u32, w_i32]); (repeat' refine And.intro ?_ ?_); (try any_goals (first | (refine hK _ _ ?_; clear hK' hQ hK Q' Kn) | (simp; done) | omega | (simp only [List.length_append, List.length_cons, List.length_nil]; omega) | (simp; omega))))
  (repeat' (first | refine AW.seq ?_ | refine AW.scope ?_ | refine AW.label ?_ | refine AW.block ?_ | refine AW.skip ?_ | refine AW.exit ?_ | refine AW.ret ?_ | (refine AW.regionC fun Q' Kn hQ hK hK' => ?_; simp (disch := omega) only [go_sem, Nat.reduceAdd, Int.reduceToNat, Nat.min_eq_left, Int.reducePow, fdivp, shr_nat, tmodp, tdivp, Int.toNat_natCast, and_1_u8, and_3_u8, and_7_u8, and_15_u8, and_31_u8, and_63_u8, and_127_u8, and_1_u32, and_3_u32, and_7_u32, and_15_u32, and_31_u32, and_63_u32, and_127_u32, and_1_u64, and_3_u64, and_7_u64, and_15_u64, and_31_u64, and_63_u64, and_127_u64, and_1_i32, and_3_i32, and_7_i32, and_15_i32, and_31_i32, and_63_i32, and_127_i32, and_1_i64, and_3_i64, and_7_i64, and_15_i64, and_31_i64, and_63_i64, and_127_i64, w_i64, w_u64, w_u8, w_u32, w_i32]; (try simp (disch := omega) only [go_sem, Nat.reduceAdd, Int.reduceToNat, Nat.min_eq_left, Int.reducePow, fdivp, shr_nat, tmodp, tdivp, Int.toNat_natCast, and_1_u8, and_3_u8, and_7_u8, and_15_u8, and_31_u8, and_63_u8, and_127_u8, and_1_u32, and_3_u32, and_7_u32, and_15_u32, and_31_u32, and_63_u32, and_127_u32, and_1_u64, and_3_u64, and_7_u64, and_15_u64, and_31_u64, and_63_u64, and_127_u64, and_1_i32, and_3_i32, and_7_i32, and_15_i32, and_31_i32, and_63_i32, and_127_i32, and_1_i64, and_3_i64, and_7_i64, and_15_i64, and_31_i64, and_63_i64, and_127_i64, w_i64, w_u64, w_u8, w_u32, w_i32]); (repeat' refine And.intro ?_ ?_); (try any_goals (first | (refine hK _ _ ?_; clear hK' hQ hK Q' Kn) | (simp; done) | omega | (simp only [List.length_append, List.length_cons, List.length_nil]; omega) | (simp; omega)))) | (refine AW.cond (by simp (disch := omega) only [go_sem, Nat.reduceAdd, Int.reduceToNat, Nat.min_eq_left, Int.reducePow, fdivp, shr_nat, tmodp, tdivp, Int.toNat_natCast, and_1_u8, and_3_u8, and_7_u8, and_15_u8, and_31_u8, and_63_u8, and_127_u8, and_1_u32, and_3_u32, and_7_u32, and_15_u32, and_31_u32, and_63_u32, and_127_u32, and_1_u64, and_3_u64, and_7_u64, and_15_u64, and_31_u64, and_63_u64, and_127_u64, and_1_i32, and_3_i32, and_7_i32, and_15_i32, and_31_i32, and_63_i32, and_127_i32, and_1_i64, and_3_i64, and_7_i64, and_15_i64, and_31_i64, and_63_i64, and_127_i64, w_i64, w_u64, w_u8, w_u32, w_i32]; rfl) (fun hb => ?_) (fun hb => ?_) <;> (try simp only [Bool.or_eq_true, Bool.and_eq_true, Bool.or_eq_false_iff, Bool.and_eq_false_iff, decide_eq_true_eq, decide_eq_false_iff_not, beq_iff_eq, bne_iff_ne, Bool.not_eq_true', beq_eq_false_iff_ne, bne_eq_false_iff_eq, ne_eq, Bool.not_eq_false', Bool.true_eq_false, Bool.false_eq_true, Bool.false_or, Bool.true_or, Bool.false_and, Bool.true_and, false_or, or_false, true_and, and_true] at hb))))
  (refine ⟨_, _, rfl, by simp, ?_⟩; simp only [aTup, AA.get, List.getD_cons_zero, List.getD_cons_succ, true_and])
  simp [hwk]
end Go.Almanac

/- DateFollows: days follow one another without a gap, later stamps are greater texts: any numbers; the listed tables tied to the text of the program. -/
namespace Go.Proofs.YtijffjbfhfjmhaaDoor.dateFollows
open Go.ChangeShapes Go.WideShapes Go.ChangeAt Go.RowKit Go.Abs Go.Almanac
open Go.ChangeMaps (open_string shut_string)
set_option linter.unusedVariables false
set_option linter.unusedSimpArgs false

theorem walk (n0 : Int) (hn0 : -9223372036854775808 ≤ n0 ∧ n0 ≤ 9223372036854775807) (n1 : Int) (hn1 : -9223372036854775808 ≤ n1 ∧ n1 ≤ 9223372036854775807) (n2 : Int) (hn2 : -9223372036854775808 ≤ n2 ∧ n2 ≤ 9223372036854775807) (W : World) (hT : Wf W.heap.size W) :
    Calls Tryd.prog 4 #[.int .i64 n0, .int .i64 n1, .int .i64 n2] W fun e W' => e = .returned (.bool true) ∧ Below W.heap.size W W' := by
  refine law_calls (E := Ev fun _ => .fptr []) (fun g => glob_nil g) hT (ACalls.mono (l_DateFollows _ n0 n1 n2 hn0.1 hn0.2 hn1.1 hn1.2 hn2.1 hn2.2 _) fun _ _ h => h.2) ?_
  simp [VRs, VR]

theorem contract (H : Type) (enc : TypeId × Value → H) (W : World) (base : Nat) (args : Array Value) (ds gs : List (DataW H)) (before : List MemPlace)
    (hval : ∀ (j : Nat) t v, Tryd.f4.params[j]? = some t → args[j]? = some v → Value.okWide Tryd.prog W .any base t v)
    (hW : DataW.Whole enc Tryd.prog Tryd.f4.params.toList Rows.dateFollowsSpec.vars false W args.toList ds gs before)
    (hL : laidMetH Tryd.prog Rows.dateFollowsRow.laid W) :
    Calls Tryd.prog 4 args W fun e W' => ∃ v, e = .returned v ∧ Rows.dateFollowsSpec.post enc Tryd.prog Tryd.f4 false true false false W args v W' := by
  have hW' := hW
  obtain ⟨p, q, hA0, hV, rfl, hfz, hnd⟩ := hW
  have hA : DataW.TrodAll enc Tryd.prog W 0 (fun _ => true) true Tryd.f4.params.toList args.toList ds p := hA0
  rw [Tryd.params4] at hA hval
  obtain ⟨v0, vs0, d0, ds0, p0, q0, hargs, rfl, rfl, h0, r0⟩ := trodAll_cons hA
  obtain ⟨v1, vs1, d1, ds1, p1, q1, hargs1, rfl, rfl, h1, r1⟩ := trodAll_cons r0
  obtain ⟨v2, vs2, d2, ds2, p2, q2, hargs2, rfl, rfl, h2, r2⟩ := trodAll_cons r1
  obtain ⟨rfl, rfl, rfl⟩ := trodAll_nil r2
  subst hargs2
  subst hargs1
  obtain rfl : args = #[v0, v1, v2] := by cases args; simp_all
  obtain ⟨rfl, rfl⟩ := trodVars_none hV
  obtain ⟨n0, rfl, rfl, rfl, w0⟩ := open_int Tryd.underlying2 (hval 0 2 v0 rfl rfl) h0
  obtain ⟨n1, rfl, rfl, rfl, w1⟩ := open_int Tryd.underlying2 (hval 1 2 v1 rfl rfl) h1
  obtain ⟨n2, rfl, rfl, rfl, w2⟩ := open_int Tryd.underlying2 (hval 2 2 v2 rfl rfl) h2
  clear hA0
  simp only [List.append_nil] at hW'
  refine (walk n0 (wf_i64 w0) n1 (wf_i64 w1) n2 (wf_i64 w2) W (wf_of_laid hL)).mono fun e W' ⟨he, hg⟩ => ?_
  subst he
  exact ⟨_, rfl, post_of_below (pa := []) (pv := []) hW' (fun _ _ _ => trodAll_cons_mk (shut_bool Tryd.underlying4 _) trodAll_mk0)
    (fun _ _ => trodAll_cons_mk (shut_int Tryd.underlying2 w0) (trodAll_cons_mk (shut_int Tryd.underlying2 w1) (trodAll_cons_mk (shut_int Tryd.underlying2 w2) trodAll_mk0))) (fun _ _ => rfl) hg⟩

theorem reads (os : Os) {H : Type} (enc : TypeId × Value → H) : ∃ places, DataW.whole enc Tryd.prog ((laidWorld os).forCall (fun _ _ => 0) ⟨#[], #[.int .i64 0, .int .i64 0, .int .i64 0], []⟩).memory Tryd.f4.params.toList Rows.dateFollowsSpec.vars false #[Value.int .i64 0, Value.int .i64 0, Value.int .i64 0].toList 8 = some ([.lit (.int .i64 0), .lit (.int .i64 0), .lit (.int .i64 0)], [], places) :=
  ⟨[], by kernel_rfl⟩

set_option maxRecDepth 100000 in
theorem lifted (os : Os) (started : os.Started) (H : Type) (enc : TypeId × Value → H) (F : Stop.Interp) :
    ReturnsInHanded {} Tryd.checked os 4 .any ((OpenSpec.ofChange Rows.dateFollowsSpec).preRow enc Tryd.prog Tryd.f4 Rows.dateFollowsRow.domain false Rows.dateFollowsRow.laid) (((OpenSpec.ofChange Rows.dateFollowsSpec).at F).post enc Tryd.prog Tryd.f4 false true false false) := by
  obtain ⟨places, hx⟩ := reads os enc
  refine returnsInHanded_of_row (C := Tryd.checked) (s := OpenSpec.ofChange Rows.dateFollowsSpec) own started (by kernel_rfl) Tryd.func4
    (witness_row_at (enc := enc) (C := Tryd.checked) false (laidWorld os) #[.int .i64 0, .int .i64 0, .int .i64 0] rfl (by kernel_rfl) (by kernel_rfl) (by kernel_rfl)
      (OpenSpec.preRow_of_cond 8 hx (by kernel_rfl) (fun k hk => by cases hk) (by kernel_rfl) (laid_met os _))) ?_
  intro W base args ds gs before hval hW _ hk _ hL hS _
  exact contract H enc W base args ds gs before hval hW hL

theorem said : Rows.DateFollowsSaid :=
  OpenClaim.holds_of_cond 4 Tryd.f4 rfl rfl rfl rfl rfl rfl rfl ⟨rfl, rfl, rfl, rfl, rfl⟩ rfl rfl rfl rfl rfl (by kernel_rfl) Tryd.func4 (by kernel_rfl)
    (of_decide_eq_true (by kernel_rfl)) (by unfold Func.isWrapper; first | (rw [if_pos (by decide +kernel)]; kernel_rfl) | (rw [if_neg (by decide +kernel)]; exact ⟨rfl, rfl⟩))
    (fun os started H enc _ F => by rw [OpenClaim.pre_eq_preRow]; exact lifted os started H enc F)

theorem plain (f : FuncId) (fn : Func) (hf : Tryd.pinned.checked.prog.funcNamed "almanac/almanaclaw10.DateFollows" = some f) (hfn : Tryd.pinned.checked.prog.funcs[f]? = some fn) :
    false = Tryd.pinned.checked.prog.looks [] ∧ ∀ (j : Nat) t, fn.params[j]? = some t → Tryd.pinned.checked.prog.wantsStandIn t = false := by
  obtain rfl : f = 4 := Option.some.inj ((show Tryd.prog.funcNamed "almanac/almanaclaw10.DateFollows" = some 4 by kernel_rfl).symm.trans hf) |>.symm
  obtain rfl : fn = Tryd.f4 := (Option.some.inj (Tryd.func4.symm.trans hfn)).symm
  refine ⟨by kernel_rfl, fun j t ht => ?_⟩
  rw [Tryd.params4] at ht
  have hm : t ∈ [2, 2, 2] := by simpa using Array.mem_of_getElem? ht
  have hall : ([2, 2, 2].all fun u => !Tryd.prog.wantsStandIn u) = true := by kernel_rfl
  exact (show Tryd.prog.wantsStandIn t = false by simpa using List.all_eq_true.1 hall t hm)

theorem proved : Rows.DateFollowsCardSaid :=
  Claim7.holds_tied_plain_at .later [] _ _ _ _ said (fun _ h => by cases h) (by kernel_rfl) (fun _ h => by cases h) dateFollows_row_tie rfl ⟨rfl, rfl⟩ (by kernel_rfl) rfl plain (by kernel_rfl)
end Go.Proofs.YtijffjbfhfjmhaaDoor.dateFollows
