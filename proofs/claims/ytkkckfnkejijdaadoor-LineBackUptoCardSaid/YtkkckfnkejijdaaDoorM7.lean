/- Texts: the plain laws of TextJoins. -/
import Derived.Test.YtkkckfnkejijdaaDoorM5
import Derived.Test.YtkkckfnkejijdaaDoorM3
import Derived.Test.YtkkckfnkejijdaaDoorMS
/- Texts: the library's tables; its functions by their contracts. -/
namespace Go.Almanac
open Go.RowKit Go.Proofs Go.Abs

set_option linter.unusedSimpArgs false
set_option linter.unusedVariables false
set_option linter.unusedSectionVars false
set_option maxRecDepth 10000

def firsts : List AV := (List.range 256).map fun c => .int .u8 (Lib.firstT c)
def accepts : List AV := (List.range 32).map fun j => .int .u8 (if j % 2 = 0 then Lib.accLo (j / 2) else Lib.accHi (j / 2))
/-- The library's variables that the text reads. -/
def Gt (m : Int) : Nat → AV
  | 0 => .fptr firsts
  | 1 => .fptr accepts
  | 2 => .fptr [.int .i64 m]
  | _ => .fptr []

theorem tabs_of {m : Int} {κ : K} {st : St} {w : World} (hR : Rel (Ev (Gt m)) κ st w) : Lib.Utf8Tabs 0 1 w := by
  refine ⟨fun c hc => ?_, fun i hi => ⟨?_, ?_⟩⟩
  · exact hR.gcell (g := 0) rfl (by rw [firsts, List.getElem?_map, List.getElem?_range hc]; rfl)
  · exact hR.gcell (g := 1) rfl (by rw [accepts, List.getElem?_map, List.getElem?_range (by omega)]; simp)
  · exact hR.gcell (g := 1) rfl (by rw [accepts, List.getElem?_map, List.getElem?_range (by omega)]; simp [show (2 * i + 1) / 2 = i from by omega, show (2 * i + 1) % 2 = 1 from by omega])
theorem maxlen_of {m : Int} {κ : K} {st : St} {w : World} (hR : Rel (Ev (Gt m)) κ st w) : w.cell? ⟨2, 0, none⟩ = some (.int .i64 m) :=
  hR.gcell (g := 2) rfl rfl

/-- The first rune, and its length. -/
def rune1 (s : List UInt8) : Nat × Nat := Lib.decodeGo ⟨s.toArray⟩

theorem b_Decode (m : Int) (s : List UInt8) (st : St) : ACalls (Ev (Gt m)) 55 [.str s] st (fun e st' => st' = st ∧ e = .ret (.tup [.int .i32 (rune1 s).1, .int .i64 (rune1 s).2])) := by
  refine ACalls.of_callsR (cargs := #[.string ⟨s.toArray⟩]) (cv := .tuple #[.int .i32 (rune1 s).1, .int .i64 (rune1 s).2]) (fun κ c h => ?_) (fun κ => ?_) fun κ w hR => ?_
  · simpa [VRs, VR] using h
  · simp [VR, VRs]
  · exact Any.utf8_DecodeRuneInString Tryd.lays197 ⟨s.toArray⟩ w (tabs_of hR)


/-- Does a text stand in another one? -/
def has (s sub : List UInt8) : Bool := Lib.contains s sub
end Go.Almanac

/- Texts: Valid, Trim, Within. -/
namespace Go.Almanac
open Go.RowKit Go.Proofs Go.Abs

set_option linter.unusedSimpArgs false
set_option linter.unusedVariables false
set_option linter.unusedSectionVars false
set_option maxRecDepth 10000

/-- Is it UTF-8? -/
def validN : Nat → List UInt8 → Bool
  | _, [] => true
  | 0, _ :: _ => false
  | k + 1, s => if (rune1 s).1 = 65533 ∧ (rune1 s).2 < 2 then false else validN k (s.drop (rune1 s).2)
def valid (s : List UInt8) : Bool := validN s.length s

theorem get!_list (s : List UInt8) (i : Nat) : (⟨s.toArray⟩ : ByteArray).get! i = s.getD i 0 := by
  show s.toArray[i]! = _
  rw [List.getElem!_toArray]
  simp only [List.getElem!_eq_getElem?_getD, List.getD_eq_getElem?_getD]
  rfl

theorem rune1_eq (s : List UInt8) (h : s ≠ []) : rune1 s = Lib.decodeN s.length (s.getD 0 0).toNat (s.getD 1 0).toNat (s.getD 2 0).toNat (s.getD 3 0).toNat := by
  have hz : (⟨s.toArray⟩ : ByteArray).size = s.length := by show s.toArray.size = _; simp
  rw [rune1, Lib.decodeGo, if_neg (by rw [hz]; simpa using h), Lib.decode_at]
  simp only [get!_list, hz, Nat.zero_add, Nat.sub_zero]

theorem decodeN_range (n b0 b1 b2 b3 : Nat) (h0 : b0 < 256) (hn : 0 < n) : 1 ≤ (Lib.decodeN n b0 b1 b2 b3).2 ∧ (Lib.decodeN n b0 b1 b2 b3).2 ≤ n ∧ (Lib.decodeN n b0 b1 b2 b3).2 ≤ 4 ∧ (Lib.decodeN n b0 b1 b2 b3).1 ≤ 1114111 := by
  unfold Lib.decodeN
  repeat' split
  all_goals (simp only; omega)

theorem rune1_range (s : List UInt8) (h : s ≠ []) : 1 ≤ (rune1 s).2 ∧ (rune1 s).2 ≤ s.length ∧ (rune1 s).2 ≤ 4 ∧ (rune1 s).1 ≤ 1114111 := by
  rw [rune1_eq s h]
  exact decodeN_range _ _ _ _ _ (UInt8.toNat_lt _) (List.length_pos_iff.2 h)

theorem validN_enough : ∀ (k : Nat) (s : List UInt8), s.length ≤ k → validN k s = valid s := by
  have key : ∀ (j k : Nat) (s : List UInt8), s.length ≤ j → s.length ≤ k → validN j s = validN k s := by
    intro j
    induction j with
    | zero => intro k s h _; have : s = [] := List.length_eq_zero_iff.1 (by omega); subst this; cases k <;> rfl
    | succ j ih =>
      intro k s h1 h2
      cases s with
      | nil => cases k <;> rfl
      | cons c r =>
        obtain ⟨k, rfl⟩ : ∃ k', k = k' + 1 := ⟨k - 1, by simp only [List.length_cons] at h2; omega⟩
        have hr := rune1_range (c :: r) (by simp)
        simp only [validN]
        split
        · rfl
        · exact ih _ _ (by simp only [List.length_drop]; omega) (by simp only [List.length_drop]; omega)
  exact fun k s h => key k s.length s h (Nat.le_refl _)
theorem valid_step {s : List UInt8} (h : s ≠ []) : valid s = if (rune1 s).1 = 65533 ∧ (rune1 s).2 < 2 then false else valid (s.drop (rune1 s).2) := by
  cases s with
  | nil => exact absurd rfl h
  | cons c r =>
    have hr := rune1_range (c :: r) (by simp)
    rw [valid, List.length_cons]
    simp only [validN]
    split
    · rfl
    · exact validN_enough _ _ (by simp only [List.length_drop, List.length_cons]; omega)

theorem t_Valid (m : Int) (s : List UInt8) (hs : s.length ≤ 4611686018427387904) (st : St) : ACalls (Ev (Gt m)) 21 [.str s] st (fun e st' => st' = st ∧ e = .ret (.bool (valid s))) := by
  refine ACalls.of_body Tryd.func21 rfl ?_
  rw [Tryd.ntmps21]
  simp only [List.length_cons, List.length_nil, Nat.reduceAdd, Nat.reduceSub, List.replicate_succ, List.replicate_zero, List.cons_append, List.nil_append]
  (repeat' (first | refine AW.seq ?_ | refine AW.scope ?_ | refine AW.label ?_ | refine AW.block ?_ | refine AW.skip ?_ | refine AW.exit ?_ | refine AW.ret ?_ | (refine AW.regionC fun Q' Kn hQ hK hK' => ?_; (repeat simp (disch := omega) only [go_sem, redN, Nat.reduceAdd, Int.reduceToNat, Int.reducePow]); (repeat' refine And.intro ?_ ?_); (try any_goals (first | (refine hK _ _ ?_; clear hK' hQ hK Q' Kn) | (simp; done) | omega | (simp only [redL]; omega) | (simp; omega)))) | (refine AW.cond (by simp (disch := omega) only [go_sem, redN, Nat.reduceAdd, Int.reduceToNat, Int.reducePow]; rfl) (fun hb => ?_) (fun hb => ?_) <;> (try simp only [redB] at hb))))
  refine AW.loopF (fun x : List UInt8 => [.str x, .junk, .bool false, .junk, .junk, .junk, .junk, .junk, .junk, .junk, .junk, .junk, .junk, .junk, .junk, .junk, .junk, .junk, .junk, .junk, .junk, .junk]) (fun _ => st)
    (fun x => x.length ≤ s.length ∧ valid x = valid s) (fun x => x.length) s ?_ rfl ?_ ?_
  · (repeat (first | exact Weak.nil | refine Weak.junk _ ?_ | refine Weak.same _ ?_ | refine Weak.eqv (by (congr 1; first | omega | (simp; done) | exact w_i64 (by omega) (by omega))) ?_))
  · exact ⟨Nat.le_refl _, rfl⟩
  rintro x ⟨h1, h2⟩
  (repeat' (first | refine AW.seq ?_ | refine AW.scope ?_ | refine AW.label ?_ | refine AW.block ?_ | refine AW.skip ?_ | refine AW.exit ?_ | refine AW.ret ?_ | (refine AW.regionC fun Q' Kn hQ hK hK' => ?_; (repeat simp (disch := omega) only [go_sem, redN, Nat.reduceAdd, Int.reduceToNat, Int.reducePow]); (repeat' refine And.intro ?_ ?_); (try any_goals (first | (refine hK _ _ ?_; clear hK' hQ hK Q' Kn) | (simp; done) | omega | (simp only [redL]; omega) | (simp; omega)))) | (refine AW.cond (by simp (disch := omega) only [go_sem, redN, Nat.reduceAdd, Int.reduceToNat, Int.reducePow]; rfl) (fun hb => ?_) (fun hb => ?_) <;> (try simp only [redB] at hb))))
  · have hne : x ≠ [] := fun e => by subst e; simp at hb
    have hr := rune1_range x hne
    rw [valid_step hne] at h2
    refine AOp.call rfl (by simp only [go_sem]; rfl) (by simp [go_sem]) rfl (ACalls.mono (by simp only [go_sem]; exact b_Decode m x st) ?_)
    rintro e st' ⟨rfl, rfl⟩
    generalize hR : (rune1 x).1 = R at *
    generalize hN : (rune1 x).2 = N at *
    (refine AOpsC_ok hK' _ _ _ ?_; (repeat simp (disch := omega) only [go_sem, redN, Nat.reduceAdd, Int.reduceToNat, Int.reducePow]); (repeat' refine And.intro ?_ ?_); (try any_goals (first | (refine hK _ _ ?_; clear hK' hQ hK Q' Kn) | (simp; done) | omega | (simp only [redL]; omega) | (simp; omega))))
    (repeat' (first | refine AW.seq ?_ | refine AW.scope ?_ | refine AW.label ?_ | refine AW.block ?_ | refine AW.skip ?_ | refine AW.exit ?_ | refine AW.ret ?_ | (refine AW.regionC fun Q' Kn hQ hK hK' => ?_; (repeat simp (disch := omega) only [go_sem, redN, Nat.reduceAdd, Int.reduceToNat, Int.reducePow]); (repeat' refine And.intro ?_ ?_); (try any_goals (first | (refine hK _ _ ?_; clear hK' hQ hK Q' Kn) | (simp; done) | omega | (simp only [redL]; omega) | (simp; omega)))) | (refine AW.cond (by simp (disch := omega) only [go_sem, redN, Nat.reduceAdd, Int.reduceToNat, Int.reducePow]; rfl) (fun hb => ?_) (fun hb => ?_) <;> (try simp only [redB] at hb))))
    · (refine ⟨_, _, rfl, by simp, ?_⟩; simp only [aTup, AA.get, List.getD_cons_zero, List.getD_cons_succ, true_and])
      rw [← h2, if_pos ⟨by omega, by omega⟩]
    · rw [if_neg (by omega)] at h2
      refine ⟨x.drop N, ⟨by simp; omega, h2⟩, by simp; omega, ?_, rfl, rfl⟩
      dsimp only
      rw [List.take_of_length_le (by simp)]
      (repeat (first | exact Weak.nil | refine Weak.junk _ ?_ | refine Weak.same _ ?_ | refine Weak.eqv (by (congr 1; first | omega | (simp; done) | exact w_i64 (by omega) (by omega))) ?_))
  · (refine ⟨_, _, rfl, by simp, ?_⟩; simp only [aTup, AA.get, List.getD_cons_zero, List.getD_cons_succ, true_and])
    have : x = [] := by cases x with | nil => rfl | cons a l => simp at hb
    subst this
    rw [← h2]; rfl
end Go.Almanac

/- Texts: the document's UTF-8. -/
namespace Go.Almanac
open Go.RowKit Go.Proofs Go.Abs

set_option linter.unusedSimpArgs false
set_option linter.unusedVariables false
set_option linter.unusedSectionVars false
set_option maxRecDepth 10000

/-- Is it a byte that goes on with a number? -/
def contL (s : List UInt8) (i : Nat) : Bool := decide ((i : Int) < s.length) && decide (((s.getD i 0).toNat : Int) ≥ 128) && decide (((s.getD i 0).toNat : Int) < 192)

theorem r_cont (G : Nat → AV) (s : List UInt8) (hs : s.length ≤ 4611686018427387904) (i : Nat) (hi : i ≤ 4611686018427387920) (st : St) : ACalls (Ev G) 78 [.str s, .int .i64 i] st (fun e st' => st' = st ∧ e = .ret (.bool (contL s i))) := by
  refine ACalls.of_body Tryd.func78 rfl ?_
  rw [Tryd.ntmps78]
  simp only [List.length_cons, List.length_nil, Nat.reduceAdd, Nat.reduceSub, List.replicate_succ, List.replicate_zero, List.cons_append, List.nil_append]
  (repeat' (first | refine AW.seq ?_ | refine AW.scope ?_ | refine AW.label ?_ | refine AW.block ?_ | refine AW.skip ?_ | refine AW.exit ?_ | refine AW.ret ?_ | (refine AW.regionC fun Q' Kn hQ hK hK' => ?_; (repeat simp (disch := omega) only [go_sem, redN, Nat.reduceAdd, Int.reduceToNat, Int.reducePow]); (repeat' refine And.intro ?_ ?_); (try any_goals (first | (refine hK _ _ ?_; clear hK' hQ hK Q' Kn) | (simp; done) | omega | (simp only [redL]; omega) | (simp; omega)))) | (refine AW.cond (by simp (disch := omega) only [go_sem, redN, Nat.reduceAdd, Int.reduceToNat, Int.reducePow]; rfl) (fun hb => ?_) (fun hb => ?_) <;> (try simp only [redB] at hb))))
  all_goals (try (intro h; simp at h; simp; omega))
  (refine ⟨_, _, rfl, by simp, ?_⟩; simp only [aTup, AA.get, List.getD_cons_zero, List.getD_cons_succ, true_and])
  simp [contL]

theorem r_cont' (G : Nat → AV) (s : List UInt8) (hs : s.length ≤ 4611686018427387904) (j : Int) (i : Nat) (hj : j = i) (hi : i ≤ 4611686018427387920) (st : St) : ACalls (Ev G) 78 [.str s, .int .i64 j] st (fun e st' => st' = st ∧ e = .ret (.bool (contL s i))) := by
  subst hj; exact r_cont G s hs i hi st
theorem contL_lt {s : List UInt8} {i : Nat} (h : contL s i = true) : i < s.length := by
  simp [contL] at h; omega

/-- How many bytes the number at a place has; 0: none is there. -/
def rlen (s : List UInt8) (i : Nat) : Nat :=
  if (s.getD i 0).toNat < 128 then 1
  else if 194 ≤ (s.getD i 0).toNat ∧ (s.getD i 0).toNat < 224 then (if contL s (i + 1) then 2 else 0)
  else if 224 ≤ (s.getD i 0).toNat ∧ (s.getD i 0).toNat < 240 then
    (if contL s (i + 1) = true ∧ contL s (i + 2) = true ∧ ¬ ((s.getD i 0).toNat = 224 ∧ (s.getD (i + 1) 0).toNat < 160) ∧ ¬ ((s.getD i 0).toNat = 237 ∧ 160 ≤ (s.getD (i + 1) 0).toNat) then 3 else 0)
  else if 240 ≤ (s.getD i 0).toNat ∧ (s.getD i 0).toNat < 245 then
    (if contL s (i + 1) = true ∧ contL s (i + 2) = true ∧ contL s (i + 3) = true ∧ ¬ ((s.getD i 0).toNat = 240 ∧ (s.getD (i + 1) 0).toNat < 144) ∧ ¬ ((s.getD i 0).toNat = 244 ∧ 144 ≤ (s.getD (i + 1) 0).toNat) then 4 else 0)
  else 0

theorem r_Rune (G : Nat → AV) (s : List UInt8) (hs : s.length ≤ 4611686018427387904) (i : Nat) (hi : i < s.length) (st : St) : ACalls (Ev G) 62 [.str s, .int .i64 i] st (fun e st' => st' = st ∧ e = .ret (.int .i64 (rlen s i))) := by
  refine ACalls.of_body Tryd.func62 rfl ?_
  rw [Tryd.ntmps62]
  simp only [List.length_cons, List.length_nil, Nat.reduceAdd, Nat.reduceSub, List.replicate_succ, List.replicate_zero, List.cons_append, List.nil_append]
  (repeat' (first | refine AW.seq ?_ | refine AW.scope ?_ | refine AW.label ?_ | refine AW.block ?_ | refine AW.skip ?_ | refine AW.exit ?_ | refine AW.ret ?_ | (refine AW.regionC fun Q' Kn hQ hK hK' => ?_; (repeat simp (disch := omega) only [go_sem, redN, Nat.reduceAdd, Int.reduceToNat, Int.reducePow]); (repeat' refine And.intro ?_ ?_); (try any_goals (first | (refine hK _ _ ?_; clear hK' hQ hK Q' Kn) | (simp; done) | omega | (simp only [redL]; omega) | (simp; omega)))) | (refine AW.cond (by simp (disch := omega) only [go_sem, redN, Nat.reduceAdd, Int.reduceToNat, Int.reducePow]; rfl) (fun hb => ?_) (fun hb => ?_) <;> (try simp only [redB] at hb))))
  · (refine ⟨_, _, rfl, by simp, ?_⟩; simp only [aTup, AA.get, List.getD_cons_zero, List.getD_cons_succ, true_and])
    rw [rlen, if_pos (by omega)]; rfl
  · rename_i h0
    refine AOp.call rfl (by simp only [go_sem]; rfl) (by simp [go_sem]) rfl (ACalls.mono (by simp only [go_sem]; exact r_cont' G s hs ((i : Int) + 1) (i + 1) (by omega) (by omega) st) ?_)
    rintro e st' ⟨rfl, rfl⟩
    (refine AOpsC_ok hK' _ _ _ ?_; (repeat simp (disch := omega) only [go_sem, redN, Nat.reduceAdd, Int.reduceToNat, Int.reducePow]); (repeat' refine And.intro ?_ ?_); (try any_goals (first | (refine hK _ _ ?_; clear hK' hQ hK Q' Kn) | (simp; done) | omega | (simp only [redL]; omega) | (simp; omega))))
    (repeat' (first | refine AW.seq ?_ | refine AW.scope ?_ | refine AW.label ?_ | refine AW.block ?_ | refine AW.skip ?_ | refine AW.exit ?_ | refine AW.ret ?_ | (refine AW.regionC fun Q' Kn hQ hK hK' => ?_; (repeat simp (disch := omega) only [go_sem, redN, Nat.reduceAdd, Int.reduceToNat, Int.reducePow]); (repeat' refine And.intro ?_ ?_); (try any_goals (first | (refine hK _ _ ?_; clear hK' hQ hK Q' Kn) | (simp; done) | omega | (simp only [redL]; omega) | (simp; omega)))) | (refine AW.cond (by simp (disch := omega) only [go_sem, redN, Nat.reduceAdd, Int.reduceToNat, Int.reducePow]; rfl) (fun hb => ?_) (fun hb => ?_) <;> (try simp only [redB] at hb))))
    · (refine ⟨_, _, rfl, by simp, ?_⟩; simp only [aTup, AA.get, List.getD_cons_zero, List.getD_cons_succ, true_and])
      rw [rlen, if_neg (by omega), if_pos (by omega), if_pos hb]; rfl
    · (refine ⟨_, _, rfl, by simp, ?_⟩; simp only [aTup, AA.get, List.getD_cons_zero, List.getD_cons_succ, true_and])
      rename_i h1
      rw [rlen, if_neg (by omega), if_pos (by omega), if_neg (by simp [hb])]; rfl
  · rename_i h0 h1
    refine AOp.call rfl (by simp only [go_sem]; rfl) (by simp [go_sem]) rfl (ACalls.mono (by simp only [go_sem]; exact r_cont' G s hs ((i : Int) + 1) (i + 1) (by omega) (by omega) st) ?_)
    rintro e st' ⟨rfl, rfl⟩
    (refine AOpsC_ok hK' _ _ _ ?_; (repeat simp (disch := omega) only [go_sem, redN, Nat.reduceAdd, Int.reduceToNat, Int.reducePow]); (repeat' refine And.intro ?_ ?_); (try any_goals (first | (refine hK _ _ ?_; clear hK' hQ hK Q' Kn) | (simp; done) | omega | (simp only [redL]; omega) | (simp; omega))))
    refine AOps.guard_call (f := 78) (v := .bool (contL s (i + 2))) rfl rfl rfl rfl rfl (fun _ => (by simp only [go_sem] <;> rfl)) (fun h => by simpa [go_sem] using h) rfl (fun _ => by simp only [go_sem]; exact r_cont' G s hs ((i : Int) + 2) (i + 2) (by omega) (by omega) _) ?_
    (refine AOpsC_ok hK' _ _ _ ?_; (repeat simp (disch := omega) only [go_sem, redN, Nat.reduceAdd, Int.reduceToNat, Int.reducePow]); (repeat' refine And.intro ?_ ?_); (try any_goals (first | (refine hK _ _ ?_; clear hK' hQ hK Q' Kn) | (simp; done) | omega | (simp only [redL]; omega) | (simp; omega))))
    all_goals (try (intro h; refine ⟨h, ?_⟩; first
      | exact fun h2 => by rw [Bool.and_eq_true]; exact ⟨h, h2⟩
      | (have h6 : contL s (i + 1) = true := by
           cases hc : contL s (i + 1) with
           | true => rfl
           | false => rw [hc] at h; simp at h
         have := contL_lt h6
         omega)))
    (repeat' (first | refine AW.seq ?_ | refine AW.scope ?_ | refine AW.label ?_ | refine AW.block ?_ | refine AW.skip ?_ | refine AW.exit ?_ | refine AW.ret ?_ | (refine AW.regionC fun Q' Kn hQ hK hK' => ?_; (repeat simp (disch := omega) only [go_sem, redN, Nat.reduceAdd, Int.reduceToNat, Int.reducePow]); (repeat' refine And.intro ?_ ?_); (try any_goals (first | (refine hK _ _ ?_; clear hK' hQ hK Q' Kn) | (simp; done) | omega | (simp only [redL]; omega) | (simp; omega)))) | (refine AW.cond (by simp (disch := omega) only [go_sem, redN, Nat.reduceAdd, Int.reduceToNat, Int.reducePow]; rfl) (fun hb => ?_) (fun hb => ?_) <;> (try simp only [redB] at hb))))
    · (refine ⟨_, _, rfl, by simp, ?_⟩; simp only [aTup, AA.get, List.getD_cons_zero, List.getD_cons_succ, true_and])
      rw [show ((i : Int) + 1).toNat = i + 1 from by omega] at hb
      rw [rlen, if_neg (by omega), if_neg (by omega), if_pos (by omega), if_pos ⟨hb.1.1.1, hb.1.1.2, by omega, by omega⟩]; rfl
    · (refine ⟨_, _, rfl, by simp, ?_⟩; simp only [aTup, AA.get, List.getD_cons_zero, List.getD_cons_succ, true_and])
      rw [show ((i : Int) + 1).toNat = i + 1 from by omega] at hb
      rw [rlen, if_neg (by omega), if_neg (by omega), if_pos (by omega), if_neg]
      · rfl
      · rintro ⟨a1, a2, a3, a4⟩
        rcases hb with ((h | h) | h) | h
        · rw [h] at a1; cases a1
        · rw [h] at a2; cases a2
        · omega
        · omega
  · rename_i h0 h1 h2
    refine AOp.call rfl (by simp only [go_sem]; rfl) (by simp [go_sem]) rfl (ACalls.mono (by simp only [go_sem]; exact r_cont' G s hs ((i : Int) + 1) (i + 1) (by omega) (by omega) st) ?_)
    rintro e st' ⟨rfl, rfl⟩
    (refine AOpsC_ok hK' _ _ _ ?_; (repeat simp (disch := omega) only [go_sem, redN, Nat.reduceAdd, Int.reduceToNat, Int.reducePow]); (repeat' refine And.intro ?_ ?_); (try any_goals (first | (refine hK _ _ ?_; clear hK' hQ hK Q' Kn) | (simp; done) | omega | (simp only [redL]; omega) | (simp; omega))))
    refine AOps.guard_call (f := 78) (v := .bool (contL s (i + 2))) rfl rfl rfl rfl rfl (fun _ => (by simp only [go_sem] <;> rfl)) (fun h => by simpa [go_sem] using h) rfl (fun _ => by simp only [go_sem]; exact r_cont' G s hs ((i : Int) + 2) (i + 2) (by omega) (by omega) _) ?_
    (refine AOpsC_ok hK' _ _ _ ?_; (repeat simp (disch := omega) only [go_sem, redN, Nat.reduceAdd, Int.reduceToNat, Int.reducePow]); (repeat' refine And.intro ?_ ?_); (try any_goals (first | (refine hK _ _ ?_; clear hK' hQ hK Q' Kn) | (simp; done) | omega | (simp only [redL]; omega) | (simp; omega))))
    refine AOps.guard_call (f := 78) (v := .bool (contL s (i + 3))) rfl rfl rfl rfl rfl (fun _ => (by simp only [go_sem] <;> rfl)) (fun h => by simpa [go_sem] using h) rfl (fun _ => by simp only [go_sem]; exact r_cont' G s hs ((i : Int) + 3) (i + 3) (by omega) (by omega) _) ?_
    (refine AOpsC_ok hK' _ _ _ ?_; (repeat simp (disch := omega) only [go_sem, redN, Nat.reduceAdd, Int.reduceToNat, Int.reducePow]); (repeat' refine And.intro ?_ ?_); (try any_goals (first | (refine hK _ _ ?_; clear hK' hQ hK Q' Kn) | (simp; done) | omega | (simp only [redL]; omega) | (simp; omega))))
    all_goals (try (intro h; refine ⟨h, ?_⟩; first
      | exact fun h2 => by rw [Bool.and_eq_true]; exact ⟨h, h2⟩
      | (have h6 : contL s (i + 1) = true := by
           cases hc : contL s (i + 1) with
           | true => rfl
           | false => rw [hc] at h; simp at h
         have := contL_lt h6
         omega)))
    (repeat' (first | refine AW.seq ?_ | refine AW.scope ?_ | refine AW.label ?_ | refine AW.block ?_ | refine AW.skip ?_ | refine AW.exit ?_ | refine AW.ret ?_ | (refine AW.regionC fun Q' Kn hQ hK hK' => ?_; (repeat simp (disch := omega) only [go_sem, redN, Nat.reduceAdd, Int.reduceToNat, Int.reducePow]); (repeat' refine And.intro ?_ ?_); (try any_goals (first | (refine hK _ _ ?_; clear hK' hQ hK Q' Kn) | (simp; done) | omega | (simp only [redL]; omega) | (simp; omega)))) | (refine AW.cond (by simp (disch := omega) only [go_sem, redN, Nat.reduceAdd, Int.reduceToNat, Int.reducePow]; rfl) (fun hb => ?_) (fun hb => ?_) <;> (try simp only [redB] at hb))))
    · (refine ⟨_, _, rfl, by simp, ?_⟩; simp only [aTup, AA.get, List.getD_cons_zero, List.getD_cons_succ, true_and])
      rw [show ((i : Int) + 1).toNat = i + 1 from by omega] at hb
      rw [rlen, if_neg (by omega), if_neg (by omega), if_neg (by omega), if_pos (by omega), if_pos ⟨hb.1.1.1.1, hb.1.1.1.2, hb.1.1.2, by omega, by omega⟩]; rfl
    · (refine ⟨_, _, rfl, by simp, ?_⟩; simp only [aTup, AA.get, List.getD_cons_zero, List.getD_cons_succ, true_and])
      rw [show ((i : Int) + 1).toNat = i + 1 from by omega] at hb
      rw [rlen, if_neg (by omega), if_neg (by omega), if_neg (by omega), if_pos (by omega), if_neg]
      · rfl
      · rintro ⟨a1, a2, a3, a4, a5⟩
        rcases hb with (((h | h) | h) | h) | h
        · rw [h] at a1; cases a1
        · rw [h] at a2; cases a2
        · rw [h] at a3; cases a3
        · omega
        · omega
  · rename_i h0 h1 h2
    (refine ⟨_, _, rfl, by simp, ?_⟩; simp only [aTup, AA.get, List.getD_cons_zero, List.getD_cons_succ, true_and])
    rw [rlen, if_neg (by omega), if_neg (by omega), if_neg (by omega), if_neg (by omega)]
    rfl

theorem rlen_decode (n b0 b1 b2 b3 : Nat) (h0 : b0 < 256) (h1 : b1 < 256) (h2 : b2 < 256) (h3 : b3 < 256) (hn : 0 < n) :
    let r := if b0 < 128 then 1
      else if 194 ≤ b0 ∧ b0 < 224 then (if 1 < n ∧ 128 ≤ b1 ∧ b1 < 192 then 2 else 0)
      else if 224 ≤ b0 ∧ b0 < 240 then (if (1 < n ∧ 128 ≤ b1 ∧ b1 < 192) ∧ (2 < n ∧ 128 ≤ b2 ∧ b2 < 192) ∧ ¬ (b0 = 224 ∧ b1 < 160) ∧ ¬ (b0 = 237 ∧ 160 ≤ b1) then 3 else 0)
      else if 240 ≤ b0 ∧ b0 < 245 then (if (1 < n ∧ 128 ≤ b1 ∧ b1 < 192) ∧ (2 < n ∧ 128 ≤ b2 ∧ b2 < 192) ∧ (3 < n ∧ 128 ≤ b3 ∧ b3 < 192) ∧ ¬ (b0 = 240 ∧ b1 < 144) ∧ ¬ (b0 = 244 ∧ 144 ≤ b1) then 4 else 0)
      else 0
    (r = 0 → Lib.decodeN n b0 b1 b2 b3 = (65533, 1)) ∧ (r ≠ 0 → (Lib.decodeN n b0 b1 b2 b3).2 = r ∧ (r = 1 → (Lib.decodeN n b0 b1 b2 b3).1 < 128)) := by
  intro r
  simp only [r, Lib.decodeN]
  repeat' split
  all_goals (first | (exfalso; omega) | (simp; done) | (simp; omega))

theorem contL_iff (s : List UInt8) (i : Nat) : contL s i = true ↔ i < s.length ∧ 128 ≤ (s.getD i 0).toNat ∧ (s.getD i 0).toNat < 192 := by
  simp [contL]; omega

theorem rlen_rune (s : List UInt8) (i : Nat) (hi : i < s.length) :
    (rlen s i = 0 → rune1 (s.drop i) = (65533, 1)) ∧ (rlen s i ≠ 0 → (rune1 (s.drop i)).2 = rlen s i ∧ (rlen s i = 1 → (rune1 (s.drop i)).1 < 128)) := by
  have hg : ∀ j, (s.drop i).getD j 0 = s.getD (i + j) 0 := fun j => by simp [List.getD]
  have hne : s.drop i ≠ [] := fun e => by have := congrArg List.length e; simp at this; omega
  rw [rune1_eq _ hne, hg, hg, hg, hg, List.length_drop, Nat.add_zero]
  have hc : ∀ j, (contL s (i + j) = true) = (j < s.length - i ∧ 128 ≤ (s.getD (i + j) 0).toNat ∧ (s.getD (i + j) 0).toNat < 192) := fun j => by
    rw [eq_iff_iff, contL_iff]; omega
  have h := rlen_decode (s.length - i) (s.getD i 0).toNat (s.getD (i + 1) 0).toNat (s.getD (i + 2) 0).toNat (s.getD (i + 3) 0).toNat (UInt8.toNat_lt _) (UInt8.toNat_lt _) (UInt8.toNat_lt _) (UInt8.toNat_lt _) (by omega)
  simp only [← hc] at h
  exact h
end Go.Almanac

/- Texts: the document's Valid, Percent, letters of base 64. -/
namespace Go.Almanac
open Go.RowKit Go.Proofs Go.Abs

set_option linter.unusedSimpArgs false
set_option linter.unusedVariables false
set_option linter.unusedSectionVars false
set_option maxRecDepth 10000

theorem r_Valid (G : Nat → AV) (s : List UInt8) (hs : s.length ≤ 4611686018427387904) (st : St) : ACalls (Ev G) 29 [.str s] st (fun e st' => st' = st ∧ e = .ret (.bool (valid s))) := by
  refine ACalls.of_body Tryd.func29 rfl ?_
  rw [Tryd.ntmps29]
  simp only [List.length_cons, List.length_nil, Nat.reduceAdd, Nat.reduceSub, List.replicate_succ, List.replicate_zero, List.cons_append, List.nil_append]
  (repeat' (first | refine AW.seq ?_ | refine AW.scope ?_ | refine AW.label ?_ | refine AW.block ?_ | refine AW.skip ?_ | refine AW.exit ?_ | refine AW.ret ?_ | (refine AW.regionC fun Q' Kn hQ hK hK' => ?_; (repeat simp (disch := omega) only [go_sem, redN, Nat.reduceAdd, Int.reduceToNat, Int.reducePow]); (repeat' refine And.intro ?_ ?_); (try any_goals (first | (refine hK _ _ ?_; clear hK' hQ hK Q' Kn) | (simp; done) | omega | (simp only [redL]; omega) | (simp; omega)))) | (refine AW.cond (by simp (disch := omega) only [go_sem, redN, Nat.reduceAdd, Int.reduceToNat, Int.reducePow]; rfl) (fun hb => ?_) (fun hb => ?_) <;> (try simp only [redB] at hb))))
  refine AW.loopF (fun x : Nat => [.str s, .junk, .bool false, .int .i64 x, .junk, .junk, .junk, .junk, .junk, .junk, .junk, .junk, .junk, .junk, .junk, .junk, .junk]) (fun _ => st)
    (fun x => x ≤ s.length ∧ valid (s.drop x) = valid s) (fun x => s.length - x) 0 ?_ rfl ?_ ?_
  · (repeat (first | exact Weak.nil | refine Weak.junk _ ?_ | refine Weak.same _ ?_ | refine Weak.eqv (by (congr 1; first | omega | (simp; done) | exact w_i64 (by omega) (by omega))) ?_))
  · exact ⟨by omega, by simp⟩
  rintro i ⟨h1, h2⟩
  dsimp only at h1 h2 ⊢
  (repeat' (first | refine AW.seq ?_ | refine AW.scope ?_ | refine AW.label ?_ | refine AW.block ?_ | refine AW.skip ?_ | refine AW.exit ?_ | refine AW.ret ?_ | (refine AW.regionC fun Q' Kn hQ hK hK' => ?_; (repeat simp (disch := omega) only [go_sem, redN, Nat.reduceAdd, Int.reduceToNat, Int.reducePow]); (repeat' refine And.intro ?_ ?_); (try any_goals (first | (refine hK _ _ ?_; clear hK' hQ hK Q' Kn) | (simp; done) | omega | (simp only [redL]; omega) | (simp; omega)))) | (refine AW.cond (by simp (disch := omega) only [go_sem, redN, Nat.reduceAdd, Int.reduceToNat, Int.reducePow]; rfl) (fun hb => ?_) (fun hb => ?_) <;> (try simp only [redB] at hb))))
  · have hi : i < s.length := by omega
    obtain ⟨r1, r2⟩ := rlen_rune s i hi
    have hne : s.drop i ≠ [] := fun e => by have := congrArg List.length e; simp at this; omega
    have hr := rune1_range _ hne
    rw [valid_step hne] at h2
    rw [List.length_drop] at hr
    refine AOp.call rfl (by simp only [go_sem]; rfl) (by simp [go_sem]) rfl (ACalls.mono (by simp only [go_sem]; exact r_Rune G s hs i hi st) ?_)
    rintro e st' ⟨rfl, rfl⟩
    (refine AOpsC_ok hK' _ _ _ ?_; (repeat simp (disch := omega) only [go_sem, redN, Nat.reduceAdd, Int.reduceToNat, Int.reducePow]); (repeat' refine And.intro ?_ ?_); (try any_goals (first | (refine hK _ _ ?_; clear hK' hQ hK Q' Kn) | (simp; done) | omega | (simp only [redL]; omega) | (simp; omega))))
    (repeat' (first | refine AW.seq ?_ | refine AW.scope ?_ | refine AW.label ?_ | refine AW.block ?_ | refine AW.skip ?_ | refine AW.exit ?_ | refine AW.ret ?_ | (refine AW.regionC fun Q' Kn hQ hK hK' => ?_; (repeat simp (disch := omega) only [go_sem, redN, Nat.reduceAdd, Int.reduceToNat, Int.reducePow]); (repeat' refine And.intro ?_ ?_); (try any_goals (first | (refine hK _ _ ?_; clear hK' hQ hK Q' Kn) | (simp; done) | omega | (simp only [redL]; omega) | (simp; omega)))) | (refine AW.cond (by simp (disch := omega) only [go_sem, redN, Nat.reduceAdd, Int.reduceToNat, Int.reducePow]; rfl) (fun hb => ?_) (fun hb => ?_) <;> (try simp only [redB] at hb))))
    · (refine ⟨_, _, rfl, by simp, ?_⟩; simp only [aTup, AA.get, List.getD_cons_zero, List.getD_cons_succ, true_and])
      rw [← h2, r1 (by omega), if_pos ⟨rfl, by decide⟩]
    · obtain ⟨q1, q2⟩ := r2 (by omega)
      rw [q1, List.drop_drop, if_neg (by intro q; have := q2 (by omega); omega)] at h2
      refine ⟨i + rlen s i, ⟨by omega, h2⟩, by omega, ?_, rfl, rfl⟩
      dsimp only
      (repeat (first | exact Weak.nil | refine Weak.junk _ ?_ | refine Weak.same _ ?_ | refine Weak.eqv (by (congr 1; first | omega | (simp; done) | exact w_i64 (by omega) (by omega))) ?_))
  · (refine ⟨_, _, rfl, by simp, ?_⟩; simp only [aTup, AA.get, List.getD_cons_zero, List.getD_cons_succ, true_and])
    have hi : i = s.length := by omega
    subst hi
    rw [← h2, List.drop_length]; rfl

theorem sextet_all : ∀ n, n < 256 → ∀ i, i < 64 → (lets.getD i 0 = UInt8.ofNat n ↔ idx lets (UInt8.ofNat n) = i) := by decide +kernel
theorem sextet_fact (c : UInt8) (i : Nat) (hi : i < 64) : lets.getD i 0 = c ↔ idx lets c = i := by
  have h := sextet_all c.toNat (UInt8.toNat_lt _) i hi
  simpa using h

theorem plain_doc_all : ∀ n, n < 256 → (dig (UInt8.ofNat n) || let8 (UInt8.ofNat n) || (((UInt8.ofNat n).toNat : Int) == 45) || (((UInt8.ofNat n).toNat : Int) == 46) || (((UInt8.ofNat n).toNat : Int) == 95) || (((UInt8.ofNat n).toNat : Int) == 126) || (((UInt8.ofNat n).toNat : Int) == 47)) = plain (UInt8.ofNat n) := by decide +kernel
theorem plain_doc (c : UInt8) : (dig c || let8 c || ((c.toNat : Int) == 45) || ((c.toNat : Int) == 46) || ((c.toNat : Int) == 95) || ((c.toNat : Int) == 126) || ((c.toNat : Int) == 47)) = plain c := by
  have h := plain_doc_all c.toNat (UInt8.toNat_lt _)
  simpa only [UInt8.ofNat_toNat] using h

end Go.Almanac

/- Texts: the document's Lower, Alike, Within. -/
namespace Go.Almanac
open Go.RowKit Go.Proofs Go.Abs

set_option linter.unusedSimpArgs false
set_option linter.unusedVariables false
set_option linter.unusedSectionVars false
set_option maxRecDepth 10000

theorem occAt_iff (t s : List UInt8) (i : Nat) (h : i + s.length ≤ t.length) : Lib.occAt t s i = ((t.drop i).take s.length == s) := by
  rw [Lib.occAt]
  cases hp : s.isPrefixOf (t.drop i) with
  | true =>
    obtain ⟨r, hr⟩ := List.isPrefixOf_iff_prefix.1 hp
    rw [← hr]; simp
  | false =>
    cases he : (t.drop i).take s.length == s with
    | false => rfl
    | true =>
      have he := eq_of_beq he
      have h5 := List.take_prefix s.length (t.drop i)
      rw [he] at h5
      rw [List.isPrefixOf_iff_prefix.2 h5] at hp; cases hp

theorem r_At (G : Nat → AV) (s t : List UInt8) (hs : s.length ≤ 2305843009213693952) (ht : t.length ≤ 2305843009213693952) (st : St) : ACalls (Ev G) 18 [.str s, .str t] st (fun e st' => st' = st ∧ e = .ret (.int .i64 (Lib.index t s))) := by
  refine ACalls.of_body Tryd.func18 rfl ?_
  rw [Tryd.ntmps18]
  simp only [List.length_cons, List.length_nil, Nat.reduceAdd, Nat.reduceSub, List.replicate_succ, List.replicate_zero, List.cons_append, List.nil_append]
  (repeat' (first | refine AW.seq ?_ | refine AW.scope ?_ | refine AW.label ?_ | refine AW.block ?_ | refine AW.skip ?_ | refine AW.exit ?_ | refine AW.ret ?_ | (refine AW.regionC fun Q' Kn hQ hK hK' => ?_; (repeat simp (disch := omega) only [go_sem, redN, Nat.reduceAdd, Int.reduceToNat, Int.reducePow]); (repeat' refine And.intro ?_ ?_); (try any_goals (first | (refine hK _ _ ?_; clear hK' hQ hK Q' Kn) | (simp; done) | omega | (simp only [redL]; omega) | (simp; omega)))) | (refine AW.cond (by simp (disch := omega) only [go_sem, redN, Nat.reduceAdd, Int.reduceToNat, Int.reducePow]; rfl) (fun hb => ?_) (fun hb => ?_) <;> (try simp only [redB] at hb))))
  refine AW.loopF (fun x : Nat => [.str s, .str t, .junk, .junk, .int .i64 0, .int .i64 x, .junk, .junk, .junk, .junk, .junk, .junk, .junk, .junk, .junk, .junk, .junk, .junk, .junk, .junk, .junk, .junk, .junk, .junk, .junk]) (fun _ => st)
    (fun x => x ≤ t.length + 1 ∧ ∀ j, j < x → Lib.occAt t s j = false) (fun x => t.length + 1 - x) 0 ?_ rfl ?_ ?_
  · (repeat (first | exact Weak.nil | refine Weak.junk _ ?_ | refine Weak.same _ ?_ | refine Weak.eqv (by (congr 1; first | omega | (simp; done) | exact w_i64 (by omega) (by omega))) ?_))
  · exact ⟨by omega, fun j hj => by omega⟩
  rintro i ⟨h1, h2⟩
  dsimp only at h1 h2 ⊢
  (repeat' (first | refine AW.seq ?_ | refine AW.scope ?_ | refine AW.label ?_ | refine AW.block ?_ | refine AW.skip ?_ | refine AW.exit ?_ | refine AW.ret ?_ | (refine AW.regionC fun Q' Kn hQ hK hK' => ?_; (repeat simp (disch := omega) only [go_sem, redN, Nat.reduceAdd, Int.reduceToNat, Int.reducePow]); (repeat' refine And.intro ?_ ?_); (try any_goals (first | (refine hK _ _ ?_; clear hK' hQ hK Q' Kn) | (simp; done) | omega | (simp only [redL]; omega) | (simp; omega)))) | (refine AW.cond (by simp (disch := omega) only [go_sem, redN, Nat.reduceAdd, Int.reduceToNat, Int.reducePow]; rfl) (fun hb => ?_) (fun hb => ?_) <;> (try simp only [redB] at hb))))
  · (refine ⟨_, _, rfl, by simp, ?_⟩; simp only [aTup, AA.get, List.getD_cons_zero, List.getD_cons_succ, true_and])
    rw [show ((i : Int) + (s.length : Int)).toNat - i = s.length from by omega] at hb
    rw [Lib.index_first (by omega) (by rw [occAt_iff t s i (by omega), hb]; simp) h2]
  · rw [show ((i : Int) + (s.length : Int)).toNat - i = s.length from by omega] at hb
    refine ⟨i + 1, ⟨by omega, fun j hj => ?_⟩, by omega, ?_, rfl, rfl⟩
    · by_cases e : j = i
      · subst e
        rw [occAt_iff t s j (by omega)]
        simpa using hb
      · exact h2 j (by omega)
    · dsimp only
      (repeat (first | exact Weak.nil | refine Weak.junk _ ?_ | refine Weak.same _ ?_ | refine Weak.eqv (by (congr 1; first | omega | (simp; done) | exact w_i64 (by omega) (by omega))) ?_))
  · (refine ⟨_, _, rfl, by simp, ?_⟩; simp only [aTup, AA.get, List.getD_cons_zero, List.getD_cons_succ, true_and])
    have hno : ∀ j, j ≤ t.length → Lib.occAt t s j = false := fun j hj => by
      by_cases hji : j < i
      · exact h2 j hji
      · cases ho : Lib.occAt t s j with
        | false => rfl
        | true =>
          have hl := (List.isPrefixOf_iff_prefix.1 ho).length_le
          rw [List.length_drop] at hl
          omega
    rw [Lib.index_none hno]

end Go.Almanac

/- Texts: the plain laws of TextJoins. -/
namespace Go.Almanac
open Go.RowKit Go.Proofs Go.Abs

set_option linter.unusedSimpArgs false
set_option linter.unusedVariables false
set_option linter.unusedSectionVars false
set_option maxRecDepth 10000

theorem decodeN_mono (n n' b0 b1 b2 b3 c1 c2 c3 : Nat) (hn : n ≤ n') (h : ¬ ((Lib.decodeN n b0 b1 b2 b3).1 = 65533 ∧ (Lib.decodeN n b0 b1 b2 b3).2 < 2))
    (h1 : 1 < (Lib.decodeN n b0 b1 b2 b3).2 → c1 = b1) (h2 : 2 < (Lib.decodeN n b0 b1 b2 b3).2 → c2 = b2) (h3 : 3 < (Lib.decodeN n b0 b1 b2 b3).2 → c3 = b3) : Lib.decodeN n' b0 c1 c2 c3 = Lib.decodeN n b0 b1 b2 b3 := by
  by_cases a0 : b0 < 128
  · simp [Lib.decodeN, a0]
  by_cases a1 : b0 / 32 = 6 ∧ (1 < n ∧ b1 / 64 = 2)
  · have e : Lib.decodeN n b0 b1 b2 b3 = (if b0 % 32 * 64 + b1 % 64 ≥ 128 then (b0 % 32 * 64 + b1 % 64, 2) else (65533, 1)) := by rw [Lib.decodeN, if_neg a0, if_pos a1]
    rw [e] at h h1 ⊢
    split at h
    · rename_i q
      rw [if_pos q] at h1
      have := h1 (by simp)
      subst this
      rw [Lib.decodeN, if_neg a0, if_pos ⟨a1.1, by omega, a1.2.2⟩, if_pos q]
    · exact absurd ⟨rfl, by simp⟩ h
  by_cases a2 : b0 / 16 = 14 ∧ (1 < n ∧ b1 / 64 = 2) ∧ (2 < n ∧ b2 / 64 = 2)
  · have e := show Lib.decodeN n b0 b1 b2 b3 = _ by rw [Lib.decodeN, if_neg a0, if_neg a1, if_pos a2]
    rw [e] at h h1 h2 ⊢
    split at h
    · rename_i q
      rw [if_pos q] at h1 h2
      have e1 := h1 (by simp)
      have e2 := h2 (by simp)
      subst e1; subst e2
      rw [Lib.decodeN, if_neg a0, if_neg (by omega), if_pos ⟨a2.1, ⟨by omega, a2.2.1.2⟩, by omega, a2.2.2.2⟩]
    · exact absurd ⟨rfl, by simp⟩ h
  by_cases a3 : b0 / 8 = 30 ∧ (1 < n ∧ b1 / 64 = 2) ∧ (2 < n ∧ b2 / 64 = 2) ∧ (3 < n ∧ b3 / 64 = 2)
  · have e := show Lib.decodeN n b0 b1 b2 b3 = _ by rw [Lib.decodeN, if_neg a0, if_neg a1, if_neg a2, if_pos a3]
    rw [e] at h h1 h2 h3 ⊢
    split at h
    · rename_i q
      rw [if_pos q] at h1 h2 h3
      have e1 := h1 (by simp)
      have e2 := h2 (by simp)
      have e3 := h3 (by simp)
      subst e1; subst e2; subst e3
      rw [Lib.decodeN, if_neg a0, if_neg (by omega), if_neg (by omega), if_pos ⟨a3.1, ⟨by omega, a3.2.1.2⟩, ⟨by omega, a3.2.2.1.2⟩, by omega, a3.2.2.2.2⟩]
    · exact absurd ⟨rfl, by simp⟩ h
  · have e : Lib.decodeN n b0 b1 b2 b3 = (65533, 1) := by rw [Lib.decodeN, if_neg a0, if_neg a1, if_neg a2, if_neg a3]
    rw [e] at h
    exact absurd ⟨rfl, by simp⟩ h

theorem rune1_append {a b : List UInt8} (ha : a ≠ []) (h : ¬ ((rune1 a).1 = 65533 ∧ (rune1 a).2 < 2)) : rune1 (a ++ b) = rune1 a := by
  have hr := rune1_range a ha
  have hab : a ++ b ≠ [] := by simp [ha]
  have hl := List.length_pos_iff.2 ha
  have hg : ∀ j, j < a.length → (a ++ b).getD j 0 = a.getD j 0 := fun j hj => by
    simp [List.getD, List.getElem?_append_left hj]
  rw [rune1_eq _ hab, hg 0 hl]
  rw [rune1_eq _ ha] at h hr ⊢
  exact decodeN_mono _ _ _ _ _ _ _ _ _ (by simp) h (fun q => by rw [hg 1 (by omega)]) (fun q => by rw [hg 2 (by omega)]) (fun q => by rw [hg 3 (by omega)])

theorem valid_append : ∀ (k : Nat) (a b : List UInt8), a.length ≤ k → valid a = true → valid b = true → valid (a ++ b) = true
  | 0, a, b, h, _, hb => by
    have : a = [] := List.length_eq_zero_iff.1 (by omega)
    subst this; simpa using hb
  | k + 1, a, b, h, ha, hb => by
    by_cases h0 : a = []
    · subst h0; simpa using hb
    have hr := rune1_range a h0
    rw [valid_step h0] at ha
    split at ha
    · cases ha
    · rename_i hne
      rw [valid_step (by simp [h0]), rune1_append h0 hne, if_neg hne, List.drop_append_of_le_length hr.2.1]
      exact valid_append k _ b (by simp; omega) ha hb

theorem has_iff (t s : List UInt8) : has t s = true ↔ ∃ u v, t = u ++ (s ++ v) := by
  rw [has, Lib.contains, decide_eq_true_eq]
  constructor
  · intro h
    rcases Lib.index_spec t s with ⟨h1, _⟩ | ⟨i, _, hi, ho, _⟩
    · omega
    · obtain ⟨v, hv⟩ := List.isPrefixOf_iff_prefix.1 ho
      exact ⟨t.take i, v, by rw [hv, List.take_append_drop]⟩
  · rintro ⟨u, v, rfl⟩
    rcases Lib.index_spec (u ++ (s ++ v)) s with ⟨_, h2⟩ | ⟨i, h1, _⟩
    · have := h2 u.length (by simp)
      rw [Lib.occAt, List.drop_append_of_le_length (Nat.le_refl _), List.drop_length, List.nil_append] at this
      rw [List.isPrefixOf_iff_prefix.2 (List.prefix_append s v)] at this; cases this
    · rw [h1]; omega
theorem has_trans {a b c : List UInt8} (h1 : has b a = true) (h2 : has c b = true) : has c a = true := by
  obtain ⟨u, v, rfl⟩ := (has_iff b a).1 h1
  obtain ⟨p, q, rfl⟩ := (has_iff c _).1 h2
  exact (has_iff _ _).2 ⟨p ++ u, v ++ q, by simp⟩
theorem has_mid (a b c : List UInt8) : has (c ++ a ++ b) a = true := (has_iff _ _).2 ⟨c, b, by simp⟩
theorem has_self (a : List UInt8) : has a a = true := (has_iff _ _).2 ⟨[], [], by simp⟩
theorem low_low_all : ∀ n, n < 256 → low (low (UInt8.ofNat n)) = low (UInt8.ofNat n) := by decide +kernel
theorem low_low (c : UInt8) : low (low c) = low c := by
  have h := low_low_all c.toNat (UInt8.toNat_lt _)
  simpa only [UInt8.ofNat_toNat] using h
theorem map_low_low (a : List UInt8) : (a.map low).map low = a.map low := by
  rw [List.map_map]; exact List.map_congr_left fun c _ => low_low c
end Go.Almanac
