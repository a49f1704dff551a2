/- Requests as bytes. -/
import Derived.Test.YtojkdncegglceaaDoorM8
import Derived.Test.YtojkdncegglceaaDoorM4
import Derived.Test.YtojkdncegglceaaDoorM9
import Derived.Test.YtojkdncegglceaaDoorM7
import Derived.Test.YtojkdncegglceaaDoorMG
/- Texts: the document's Base64 (as E29, upon what a seat without the rest of chapter 8 has). -/
namespace Go.Almanac
open Go.RowKit Go.Proofs Go.Abs

set_option linter.unusedSimpArgs false
set_option linter.unusedVariables false
set_option linter.unusedSectionVars false
set_option maxRecDepth 10000
set_option maxHeartbeats 1000000

theorem inner8 (n : Nat) : inner n 8 = [UInt8.ofNat (n / 4 % 64)] := by
  rw [inner, dif_pos (by omega), inner, dif_neg (by omega)]
theorem inner10 (n : Nat) : inner n 10 = [UInt8.ofNat (n / 16 % 64)] := by
  rw [inner, dif_pos (by omega), inner, dif_neg (by omega)]
theorem inner12 (n : Nat) : inner n 12 = [UInt8.ofNat (n / 64 % 64), UInt8.ofNat (n % 64)] := by
  rw [inner, dif_pos (by omega), inner, dif_pos (by omega), inner, dif_neg (by omega)]; simp

theorem sxs1 (a : UInt8) : sxs [a] 0 0 = [UInt8.ofNat (a.toNat / 4 % 64), UInt8.ofNat (a.toNat % 4 * 16)] := by
  have ha : a.toNat < 256 := UInt8.toNat_lt _
  simp [sxs, inner8, -UInt8.ofNat_mul]
  exact congrArg UInt8.ofNat (by omega)
theorem sxs2 (a b : UInt8) : sxs [a, b] 0 0 = [UInt8.ofNat (a.toNat / 4 % 64), UInt8.ofNat ((a.toNat % 4 * 256 + b.toNat) / 16 % 64), UInt8.ofNat (b.toNat % 16 * 4)] := by
  have ha : b.toNat < 256 := UInt8.toNat_lt _
  simp [sxs, inner8, inner10, -UInt8.ofNat_mul]
  exact congrArg UInt8.ofNat (by omega)
theorem sxs3 (a b c : UInt8) (r : List UInt8) : sxs (a :: b :: c :: r) 0 0 = [UInt8.ofNat (a.toNat / 4 % 64), UInt8.ofNat ((a.toNat % 4 * 256 + b.toNat) / 16 % 64), UInt8.ofNat ((b.toNat % 16 * 256 + c.toNat) / 64 % 64), UInt8.ofNat (c.toNat % 64)] ++ sxs r 0 0 := by
  simp [sxs, inner8, inner10, inner12]
  refine ⟨congrArg UInt8.ofNat (by omega), congrArg UInt8.ofNat (by omega), by rw [Nat.mod_one]⟩

/-- The number of k bytes from i on, noughts behind the text. -/
def part (s : List UInt8) (i : Nat) : Nat → Nat
  | 0 => 0
  | k + 1 => part s i k * 256 + (if i + k < s.length then (s.getD (i + k) 0).toNat else 0)
/-- The k-th sign of a group. -/
def sign (s : List UInt8) (i k : Nat) : UInt8 := if i + k ≤ s.length then lets.getD (part s i 3 / 2 ^ (18 - 6 * k) % 64) 0 else 61
def signs (s : List UInt8) (i : Nat) : Nat → List UInt8
  | 0 => []
  | k + 1 => signs s i k ++ [sign s i k]
theorem signs_length (s : List UInt8) (i : Nat) : ∀ k, (signs s i k).length = k
  | 0 => rfl
  | k + 1 => by simp [signs, signs_length s i k]

theorem letter_ofNat (v : Nat) (h : v < 64) : letter (UInt8.ofNat v) = lets.getD v 0 := by
  rw [letter, UInt8.toNat_ofNat', Nat.mod_eq_of_lt (by omega)]

theorem padded_append4 (a b c d : UInt8) (l : List UInt8) : padded64 (a :: b :: c :: d :: l) = [a, b, c, d] ++ padded64 l := by
  simp only [padded64, List.length_cons]
  rw [show (4 - (l.length + 1 + 1 + 1 + 1) % 4) % 4 = (4 - l.length % 4) % 4 from by omega]
  simp

theorem b64_group (s : List UInt8) (i : Nat) (hi : i < s.length) : b64 (s.drop i) = signs s i 4 ++ b64 (s.drop (i + 3)) := by
  have hl : (s.drop i).length = s.length - i := List.length_drop ..
  have hd : s.drop (i + 3) = (s.drop i).drop 3 := by rw [List.drop_drop]
  have h0 := getD_drop s i 0
  have h1 := getD_drop s i 1
  have h2 := getD_drop s i 2
  rw [hd]
  have hs4 : signs s i 4 = [sign s i 0, sign s i 1, sign s i 2, sign s i 3] := rfl
  rw [hs4]
  have b0 : (s.getD i 0).toNat < 256 := UInt8.toNat_lt _
  have b1 : (s.getD (i + 1) 0).toNat < 256 := UInt8.toNat_lt _
  have b2 : (s.getD (i + 2) 0).toNat < 256 := UInt8.toNat_lt _
  rcases hr : s.drop i with _ | ⟨a, _ | ⟨b, _ | ⟨c, r⟩⟩⟩
  · rw [hr] at hl; simp at hl; omega
  · rw [hr] at hl h0
    simp only [List.length_cons, List.length_nil] at hl
    have ea : s.getD i 0 = a := h0.symm
    have hp : part s i 3 = a.toNat * 65536 := by
      simp only [part, if_neg (show ¬ i + 1 < s.length from by omega), if_neg (show ¬ i + 2 < s.length from by omega), Nat.add_zero, if_pos hi, ea]; omega
    rw [ea] at b0
    simp only [sign, hp]
    rw [if_pos (by omega), if_pos (by omega), if_neg (by omega), if_neg (by omega), b64, sxs1]
    simp only [List.map_cons, List.map_nil]
    rw [letter_ofNat _ (by omega), letter_ofNat _ (by omega)]
    rw [show a.toNat * 65536 / 2 ^ (18 - 6 * 0) % 64 = a.toNat / 4 % 64 from by omega, show a.toNat * 65536 / 2 ^ (18 - 6 * 1) % 64 = a.toNat % 4 * 16 from by omega]
    simp [padded64, b64, sxs, List.replicate]
  · rw [hr] at hl h0 h1
    simp only [List.length_cons, List.length_nil] at hl
    have ea : s.getD i 0 = a := h0.symm
    have eb : s.getD (i + 1) 0 = b := h1.symm
    have hp : part s i 3 = a.toNat * 65536 + b.toNat * 256 := by
      simp only [part, if_pos (show i + 1 < s.length from by omega), if_neg (show ¬ i + 2 < s.length from by omega), Nat.add_zero, if_pos hi, ea, eb]; omega
    rw [ea] at b0
    rw [eb] at b1
    simp only [sign, hp]
    rw [if_pos (by omega), if_pos (by omega), if_pos (by omega), if_neg (by omega), b64, sxs2]
    simp only [List.map_cons, List.map_nil]
    rw [letter_ofNat _ (by omega), letter_ofNat _ (by omega), letter_ofNat _ (by omega)]
    rw [show (a.toNat * 65536 + b.toNat * 256) / 2 ^ (18 - 6 * 0) % 64 = a.toNat / 4 % 64 from by omega, show (a.toNat * 65536 + b.toNat * 256) / 2 ^ (18 - 6 * 1) % 64 = (a.toNat % 4 * 256 + b.toNat) / 16 % 64 from by omega,
      show (a.toNat * 65536 + b.toNat * 256) / 2 ^ (18 - 6 * 2) % 64 = b.toNat % 16 * 4 from by omega]
    simp [padded64, b64, sxs, List.replicate]
  · rw [hr] at hl h0 h1 h2
    simp only [List.length_cons] at hl
    have ea : s.getD i 0 = a := h0.symm
    have eb : s.getD (i + 1) 0 = b := h1.symm
    have ec : s.getD (i + 2) 0 = c := h2.symm
    have hp : part s i 3 = a.toNat * 65536 + b.toNat * 256 + c.toNat := by
      simp only [part, if_pos (show i + 1 < s.length from by omega), if_pos (show i + 2 < s.length from by omega), Nat.add_zero, if_pos hi, ea, eb, ec]; omega
    rw [ea] at b0
    rw [eb] at b1
    rw [ec] at b2
    simp only [sign, hp]
    rw [if_pos (by omega), if_pos (by omega), if_pos (by omega), if_pos (by omega), b64, sxs3, List.map_append]
    simp only [List.map_cons, List.map_nil, List.cons_append, List.nil_append, padded_append4]
    rw [letter_ofNat _ (by omega), letter_ofNat _ (by omega), letter_ofNat _ (by omega), letter_ofNat _ (by omega)]
    rw [show (a.toNat * 65536 + b.toNat * 256 + c.toNat) / 2 ^ (18 - 6 * 0) % 64 = a.toNat / 4 % 64 from by omega, show (a.toNat * 65536 + b.toNat * 256 + c.toNat) / 2 ^ (18 - 6 * 1) % 64 = (a.toNat % 4 * 256 + b.toNat) / 16 % 64 from by omega,
      show (a.toNat * 65536 + b.toNat * 256 + c.toNat) / 2 ^ (18 - 6 * 2) % 64 = (b.toNat % 16 * 256 + c.toNat) / 64 % 64 from by omega, show (a.toNat * 65536 + b.toNat * 256 + c.toNat) / 2 ^ (18 - 6 * 3) % 64 = c.toNat % 64 from by omega]
    rfl
theorem part_lt (s : List UInt8) (i : Nat) : ∀ k, part s i k < 256 ^ k
  | 0 => by simp [part]
  | k + 1 => by
    have := part_lt s i k
    have hb : (s.getD (i + k) 0).toNat < 256 := UInt8.toNat_lt _
    rw [part, Nat.pow_succ]
    split <;> omega

theorem r_Base64 (G : Nat → AV) (s : List UInt8) (hs : s.length ≤ 35184372088832) (st : St) : ACalls (Ev G) 27 [.str s] st (fun e st' => st' = st ∧ e = .ret (.str (b64 s))) := by
  refine ACalls.thaw (R' := fun e st' => st.sub st' ∧ e = .ret (.str (b64 s))) ?_ (fun x st1 h => ⟨2, st, h.1, rfl, by rw [h.2]; rfl⟩)
  refine ACalls.of_body Tryd.func27 rfl ?_
  rw [Tryd.ntmps27]
  simp only [List.length_cons, List.length_nil, Nat.reduceAdd, Nat.reduceSub, List.replicate_succ, List.replicate_zero, List.cons_append, List.nil_append]
  (repeat' (first | refine AW.seq ?_ | refine AW.scope ?_ | refine AW.label ?_ | refine AW.block ?_ | refine AW.skip ?_ | refine AW.exit ?_ | refine AW.ret ?_ | (refine AW.regionC fun Q' Kn hQ hK hK' => ?_; (repeat simp (disch := omega) only [go_sem, redN, Nat.reduceAdd, Int.reduceToNat, Int.reducePow]); (repeat' refine And.intro ?_ ?_); (try any_goals (first | (refine hK _ _ ?_; clear hK' hQ hK Q' Kn) | (simp; done) | omega | (simp only [redL]; omega) | (simp; omega)))) | (refine AW.cond (by simp (disch := omega) only [go_sem, redN, Nat.reduceAdd, Int.reduceToNat, Int.reducePow]; rfl) (fun hb => ?_) (fun hb => ?_) <;> (try simp only [redB] at hb))))
  refine AW.loopF (fun x : Nat × List UInt8 × AV × St => [.str s, .junk, .str [], x.2.2.1, .int .i64 x.1, .junk, .junk, .junk, .junk, .junk, .junk, .junk, .junk, .junk, .junk, .junk, .junk, .junk, .junk, .junk, .junk, .junk, .junk, .junk, .junk, .junk, .junk, .junk, .junk, .junk, .junk, .junk, .junk, .junk, .junk, .junk, .junk, .junk, .junk, .junk, .junk, .junk, .junk, .junk, .junk, .junk, .junk, .junk, .junk, .junk, .junk, .junk, .junk, .junk, .junk, .junk, .junk, .junk, .junk]) (fun x => x.2.2.2)
    (fun x => x.1 ≤ s.length + 2 ∧ SW st 5 1 x.2.2.1 x.2.2.2 (bytesE x.2.1) ∧ x.2.1.length ≤ 2 * x.1 ∧ x.2.1 ++ b64 (s.drop x.1) = b64 s) (fun x => s.length + 2 - x.1) (0, [], .nils, st) ?_ rfl ?_ ?_
  · (repeat (first | exact Weak.nil | refine Weak.junk _ ?_ | refine Weak.same _ ?_ | refine Weak.eqv (by (congr 1; first | omega | (simp; done) | exact w_i64 (by omega) (by omega))) ?_))
  · exact ⟨by simp, SW.new st 5 1, by simp, by simp⟩
  rintro ⟨i, acc, v, σ⟩ ⟨h1, h2, h3, h4⟩
  dsimp only at h1 h2 h3 h4 ⊢
  (repeat' (first | refine AW.seq ?_ | refine AW.scope ?_ | refine AW.label ?_ | refine AW.block ?_ | refine AW.skip ?_ | refine AW.exit ?_ | refine AW.ret ?_))
  (refine AW.regionC fun Q' Kn hQ hK hK' => ?_; (repeat simp (disch := omega) only [go_sem, redN, Nat.reduceAdd, Int.reduceToNat, Int.reducePow]); (repeat' refine And.intro ?_ ?_); (try any_goals (first | (refine hK _ _ ?_; clear hK' hQ hK Q' Kn) | (simp; done) | omega | (simp only [redL]; omega) | (simp; omega))))
  (repeat' (first | refine AW.seq ?_ | refine AW.scope ?_ | refine AW.label ?_ | refine AW.block ?_ | refine AW.skip ?_ | refine AW.exit ?_ | refine AW.ret ?_))
  (refine AW.cond (by simp (disch := omega) only [go_sem, redN, Nat.reduceAdd, Int.reduceToNat, Int.reducePow]; rfl) (fun hb => ?_) (fun hb => ?_) <;> (try simp only [redB] at hb))
  · (repeat' (first | refine AW.seq ?_ | refine AW.scope ?_ | refine AW.label ?_ | refine AW.block ?_ | refine AW.skip ?_ | refine AW.exit ?_ | refine AW.ret ?_))
    (refine AW.regionC fun Q' Kn hQ hK hK' => ?_; (repeat simp (disch := omega) only [go_sem, redN, Nat.reduceAdd, Int.reduceToNat, Int.reducePow]); (repeat' refine And.intro ?_ ?_); (try any_goals (first | (refine hK _ _ ?_; clear hK' hQ hK Q' Kn) | (simp; done) | omega | (simp only [redL]; omega) | (simp; omega))))
    (repeat' (first | refine AW.seq ?_ | refine AW.scope ?_ | refine AW.label ?_ | refine AW.block ?_ | refine AW.skip ?_ | refine AW.exit ?_ | refine AW.ret ?_))
    (refine AW.regionC fun Q' Kn hQ hK hK' => ?_; (repeat simp (disch := omega) only [go_sem, redN, Nat.reduceAdd, Int.reduceToNat, Int.reducePow]); (repeat' refine And.intro ?_ ?_); (try any_goals (first | (refine hK _ _ ?_; clear hK' hQ hK Q' Kn) | (simp; done) | omega | (simp only [redL]; omega) | (simp; omega))))
    (repeat' (first | refine AW.seq ?_ | refine AW.scope ?_ | refine AW.label ?_ | refine AW.block ?_ | refine AW.skip ?_ | refine AW.exit ?_ | refine AW.ret ?_))
    have hi : i < s.length := by omega
    rw [b64_group s i hi] at h4
    refine AW.loopF (fun x : Nat => [.str s, .junk, .str [], v, .int .i64 i, .int .i64 (part s i x), .int .i64 x, .junk, .junk, .junk, .junk, .junk, .junk, .junk, .junk, .junk, .junk, .junk, .junk, .junk, .junk, .junk, .junk, .junk, .junk, .junk, .junk, .junk, .junk, .junk, .junk, .junk, .junk, .junk, .junk, .junk, .junk, .junk, .junk, .junk, .junk, .junk, .junk, .junk, .junk, .junk, .junk, .junk, .junk, .junk, .junk, .junk, .junk, .junk, .junk, .junk, .junk, .junk, .junk]) (fun _ => σ)
      (fun x => x ≤ 3) (fun x => 3 - x) 0 ?_ rfl ?_ ?_
    · (repeat (first | exact Weak.nil | refine Weak.junk _ ?_ | refine Weak.same _ ?_ | refine Weak.eqv (by (congr 1; first | omega | (simp; done) | exact w_i64 (by omega) (by omega))) ?_))
    · simp
    · intro k hk
      have hpl := part_lt s i k
      have hpw : 256 ^ k ≤ 256 ^ 3 := Nat.pow_le_pow_right (by omega) hk
      (repeat' (first | refine AW.seq ?_ | refine AW.scope ?_ | refine AW.label ?_ | refine AW.block ?_ | refine AW.skip ?_ | refine AW.exit ?_ | refine AW.ret ?_ | (refine AW.regionC fun Q' Kn hQ hK hK' => ?_; (repeat simp (disch := omega) only [go_sem, redN, Nat.reduceAdd, Int.reduceToNat, Int.reducePow]); (repeat' refine And.intro ?_ ?_); (try any_goals (first | (refine hK _ _ ?_; clear hK' hQ hK Q' Kn) | (simp; done) | omega | (simp only [redL]; omega) | (simp; omega)))) | (refine AW.cond (by simp (disch := omega) only [go_sem, redN, Nat.reduceAdd, Int.reduceToNat, Int.reducePow]; rfl) (fun hb => ?_) (fun hb => ?_) <;> (try simp only [redB] at hb))))
      · have hp : part s i (k + 1) = part s i k * 256 + (s.getD (i + k) 0).toNat := by rw [part, if_pos (by omega)]
        have e1 : ((i : Int) + (k : Int)).toNat = i + k := by omega
        have hb8 : (s.getD (i + k) 0).toNat < 256 := UInt8.toNat_lt _
        refine ⟨k + 1, by omega, by omega, ?_, rfl, rfl⟩
        rw [hp]
        simp only [e1]
        (try simp (disch := omega) only [w_i64])
        (repeat (first | exact Weak.nil | refine Weak.junk _ ?_ | refine Weak.same _ ?_ | refine Weak.eqv (by (congr 1; first | omega | (simp; done) | exact w_i64 (by omega) (by omega))) ?_))
      · have hp : part s i (k + 1) = part s i k * 256 := by rw [part, if_neg (by omega)]; rfl
        refine ⟨k + 1, by omega, by omega, ?_, rfl, rfl⟩
        rw [hp]
        (repeat (first | exact Weak.nil | refine Weak.junk _ ?_ | refine Weak.same _ ?_ | refine Weak.eqv (by (congr 1; first | omega | (simp; done) | exact w_i64 (by omega) (by omega))) ?_))
      · have hk3 : k = 3 := by omega
        subst hk3
        generalize hn : part s i 3 = n at *
        refine AW.loopF (fun x : Nat × AV × St => [.str s, .junk, .str [], x.2.1, .int .i64 i, .int .i64 n, .junk, .int .i64 x.1, .junk, .junk, .junk, .junk, .junk, .junk, .junk, .junk, .junk, .junk, .junk, .junk, .junk, .junk, .junk, .junk, .junk, .junk, .junk, .junk, .junk, .junk, .junk, .junk, .junk, .junk, .junk, .junk, .junk, .junk, .junk, .junk, .junk, .junk, .junk, .junk, .junk, .junk, .junk, .junk, .junk, .junk, .junk, .junk, .junk, .junk, .junk, .junk, .junk, .junk, .junk]) (fun x => x.2.2)
          (fun x => x.1 ≤ 4 ∧ SW st 5 1 x.2.1 x.2.2 (bytesE (acc ++ signs s i x.1))) (fun x => 4 - x.1) (0, v, σ) ?_ rfl ?_ ?_
        · (repeat (first | exact Weak.nil | refine Weak.junk _ ?_ | refine Weak.same _ ?_ | refine Weak.eqv (by (congr 1; first | omega | (simp; done) | exact w_i64 (by omega) (by omega))) ?_))
        · exact ⟨by simp, by simpa [signs] using h2⟩
        rintro ⟨k, v2, σ2⟩ ⟨k1, k2⟩
        dsimp only at k1 k2 ⊢
        have hsl := signs_length s i k
        have e5 : k ≤ 3 → ((n / 2 ^ ((18 : Int) - 6 * (k : Int)).toNat : Nat) : Int).tmod 64 = ((n / 2 ^ (18 - 6 * k) % 64 : Nat) : Int) := fun hk3 => by
          rw [show ((18 : Int) - 6 * (k : Int)).toNat = 18 - 6 * k from by omega]
          generalize n / 2 ^ (18 - 6 * k) = q
          rw [tmodp (Int.natCast_nonneg _)]; omega
        (repeat' (first | refine AW.seq ?_ | refine AW.scope ?_ | refine AW.label ?_ | refine AW.block ?_ | refine AW.skip ?_ | refine AW.exit ?_ | refine AW.ret ?_ | (refine AW.regionC fun Q' Kn hQ hK hK' => ?_; (repeat simp (disch := omega) only [go_sem, redN, Nat.reduceAdd, Int.reduceToNat, Int.reducePow]); (repeat' refine And.intro ?_ ?_); (try any_goals (first | (refine hK _ _ ?_; clear hK' hQ hK Q' Kn) | (simp; done) | omega | (simp only [redL]; omega) | (simp; omega)))) | (refine AW.cond (by simp (disch := omega) only [go_sem, redN, Nat.reduceAdd, Int.reduceToNat, Int.reducePow]; rfl) (fun hb => ?_) (fun hb => ?_) <;> (try simp only [redB] at hb))))
        · have hsg : sign s i k = lets.getD (n / 2 ^ (18 - 6 * k) % 64) 0 := by rw [sign, if_pos (by omega), hn]
          rw [e5 (by omega), Int.toNat_natCast]
          refine AOp.buildSlice (e := 5) (sz := 1) (es := bytesE [sign s i k]) rfl rfl rfl rfl (by simp [partsC, go_sem]) (by rw [hsg]; first | (simp [aParts, go_sem, bytesE]; done) | (simp [aParts, go_sem, bytesE]; rfl)) (by simp [bytesE]) rfl (by decide) (by decide) fun it hit => ?_
          (refine AOpsC_ok hK' _ _ _ ?_; (repeat simp (disch := omega) only [go_sem, redN, Nat.reduceAdd, Int.reduceToNat, Int.reducePow]); (repeat' refine And.intro ?_ ?_); (try any_goals (first | (refine hK _ _ ?_; clear hK' hQ hK Q' Kn) | (simp; done) | omega | (simp only [redL]; omega) | (simp; omega))))
          refine AOp.appendE (e := 5) (sz := 1) (by_ := 1) rfl rfl rfl rfl rfl rfl rfl (by decide) k2 hit rfl (bytesE_one _) (by rw [bytesE_length, List.length_append, hsl]; omega) (by rw [bytesE_length, List.length_append, hsl]; simp only [maxLen]; omega) (by simp [bytesE]) fun v' σ' h5 => ?_
          (refine AOpsC_ok hK' _ _ _ ?_; (repeat simp (disch := omega) only [go_sem, redN, Nat.reduceAdd, Int.reduceToNat, Int.reducePow]); (repeat' refine And.intro ?_ ?_); (try any_goals (first | (refine hK _ _ ?_; clear hK' hQ hK Q' Kn) | (simp; done) | omega | (simp only [redL]; omega) | (simp; omega))))
          (repeat' (first | refine AW.seq ?_ | refine AW.scope ?_ | refine AW.label ?_ | refine AW.block ?_ | refine AW.skip ?_ | refine AW.exit ?_ | refine AW.ret ?_ | (refine AW.regionC fun Q' Kn hQ hK hK' => ?_; (repeat simp (disch := omega) only [go_sem, redN, Nat.reduceAdd, Int.reduceToNat, Int.reducePow]); (repeat' refine And.intro ?_ ?_); (try any_goals (first | (refine hK _ _ ?_; clear hK' hQ hK Q' Kn) | (simp; done) | omega | (simp only [redL]; omega) | (simp; omega)))) | (refine AW.cond (by simp (disch := omega) only [go_sem, redN, Nat.reduceAdd, Int.reduceToNat, Int.reducePow]; rfl) (fun hb => ?_) (fun hb => ?_) <;> (try simp only [redB] at hb))))
          rw [← bytesE_append, List.append_assoc] at h5
          refine ⟨(k + 1, v', σ'), ⟨by dsimp only; omega, h5⟩, by dsimp only; omega, ?_, rfl, rfl⟩
          dsimp only
          (repeat (first | exact Weak.nil | refine Weak.junk _ ?_ | refine Weak.same _ ?_ | refine Weak.eqv (by (congr 1; first | omega | (simp; done) | exact w_i64 (by omega) (by omega))) ?_))
        · have hsg : sign s i k = 61 := by rw [sign, if_neg (by omega)]
          refine AOp.buildSlice (e := 5) (sz := 1) (es := bytesE [sign s i k]) rfl rfl rfl rfl (by simp [partsC, go_sem]) (by rw [hsg]; first | (simp [aParts, go_sem, bytesE]; done) | (simp [aParts, go_sem, bytesE]; rfl)) (by simp [bytesE]) rfl (by decide) (by decide) fun it hit => ?_
          (refine AOpsC_ok hK' _ _ _ ?_; (repeat simp (disch := omega) only [go_sem, redN, Nat.reduceAdd, Int.reduceToNat, Int.reducePow]); (repeat' refine And.intro ?_ ?_); (try any_goals (first | (refine hK _ _ ?_; clear hK' hQ hK Q' Kn) | (simp; done) | omega | (simp only [redL]; omega) | (simp; omega))))
          refine AOp.appendE (e := 5) (sz := 1) (by_ := 1) rfl rfl rfl rfl rfl rfl rfl (by decide) k2 hit rfl (bytesE_one _) (by rw [bytesE_length, List.length_append, hsl]; omega) (by rw [bytesE_length, List.length_append, hsl]; simp only [maxLen]; omega) (by simp [bytesE]) fun v' σ' h5 => ?_
          (refine AOpsC_ok hK' _ _ _ ?_; (repeat simp (disch := omega) only [go_sem, redN, Nat.reduceAdd, Int.reduceToNat, Int.reducePow]); (repeat' refine And.intro ?_ ?_); (try any_goals (first | (refine hK _ _ ?_; clear hK' hQ hK Q' Kn) | (simp; done) | omega | (simp only [redL]; omega) | (simp; omega))))
          (repeat' (first | refine AW.seq ?_ | refine AW.scope ?_ | refine AW.label ?_ | refine AW.block ?_ | refine AW.skip ?_ | refine AW.exit ?_ | refine AW.ret ?_ | (refine AW.regionC fun Q' Kn hQ hK hK' => ?_; (repeat simp (disch := omega) only [go_sem, redN, Nat.reduceAdd, Int.reduceToNat, Int.reducePow]); (repeat' refine And.intro ?_ ?_); (try any_goals (first | (refine hK _ _ ?_; clear hK' hQ hK Q' Kn) | (simp; done) | omega | (simp only [redL]; omega) | (simp; omega)))) | (refine AW.cond (by simp (disch := omega) only [go_sem, redN, Nat.reduceAdd, Int.reduceToNat, Int.reducePow]; rfl) (fun hb => ?_) (fun hb => ?_) <;> (try simp only [redB] at hb))))
          rw [← bytesE_append, List.append_assoc] at h5
          refine ⟨(k + 1, v', σ'), ⟨by dsimp only; omega, h5⟩, by dsimp only; omega, ?_, rfl, rfl⟩
          dsimp only
          (repeat (first | exact Weak.nil | refine Weak.junk _ ?_ | refine Weak.same _ ?_ | refine Weak.eqv (by (congr 1; first | omega | (simp; done) | exact w_i64 (by omega) (by omega))) ?_))
        · have hk4 : k = 4 := by omega
          subst hk4
          refine ⟨(i + 3, acc ++ signs s i 4, v2, σ2), ⟨by dsimp only; omega, k2, by simp [hsl]; omega, by rw [List.append_assoc]; exact h4⟩, by dsimp only; omega, ?_, rfl, rfl⟩
          dsimp only
          (repeat (first | exact Weak.nil | refine Weak.junk _ ?_ | refine Weak.same _ ?_ | refine Weak.eqv (by (congr 1; first | omega | (simp; done) | exact w_i64 (by omega) (by omega))) ?_))
  · (repeat' (first | refine AW.seq ?_ | refine AW.scope ?_ | refine AW.label ?_ | refine AW.block ?_ | refine AW.skip ?_ | refine AW.exit ?_ | refine AW.ret ?_))
    have hd : s.drop i = [] := List.drop_of_length_le (by omega)
    rw [hd] at h4
    have hu : acc = b64 s := by rw [← h4]; simp [b64, sxs, padded64]
    rw [← hu]
    rcases h2.own with ⟨rfl, _⟩ | ⟨ia, g, rfl, _⟩
    all_goals (
      (repeat' (first | refine AW.seq ?_ | refine AW.scope ?_ | refine AW.label ?_ | refine AW.block ?_ | refine AW.skip ?_ | refine AW.exit ?_ | refine AW.ret ?_ | (refine AW.regionC fun Q' Kn hQ hK hK' => ?_; (repeat simp (disch := omega) only [go_sem, redN, Nat.reduceAdd, Int.reduceToNat, Int.reducePow]); (repeat' refine And.intro ?_ ?_); (try any_goals (first | (refine hK _ _ ?_; clear hK' hQ hK Q' Kn) | (simp; done) | omega | (simp only [redL]; omega) | (simp; omega)))) | (refine AW.cond (by simp (disch := omega) only [go_sem, redN, Nat.reduceAdd, Int.reduceToNat, Int.reducePow]; rfl) (fun hb => ?_) (fun hb => ?_) <;> (try simp only [redB] at hb))))
      refine AOp.toStrW rfl rfl rfl rfl rfl h2 ?_
      (refine AOpsC_ok hK' _ _ _ ?_; (repeat simp (disch := omega) only [go_sem, redN, Nat.reduceAdd, Int.reduceToNat, Int.reducePow]); (repeat' refine And.intro ?_ ?_); (try any_goals (first | (refine hK _ _ ?_; clear hK' hQ hK Q' Kn) | (simp; done) | omega | (simp only [redL]; omega) | (simp; omega))))
      (repeat' (first | refine AW.seq ?_ | refine AW.scope ?_ | refine AW.label ?_ | refine AW.block ?_ | refine AW.skip ?_ | refine AW.exit ?_ | refine AW.ret ?_ | (refine AW.regionC fun Q' Kn hQ hK hK' => ?_; (repeat simp (disch := omega) only [go_sem, redN, Nat.reduceAdd, Int.reduceToNat, Int.reducePow]); (repeat' refine And.intro ?_ ?_); (try any_goals (first | (refine hK _ _ ?_; clear hK' hQ hK Q' Kn) | (simp; done) | omega | (simp only [redL]; omega) | (simp; omega)))) | (refine AW.cond (by simp (disch := omega) only [go_sem, redN, Nat.reduceAdd, Int.reduceToNat, Int.reducePow]; rfl) (fun hb => ?_) (fun hb => ?_) <;> (try simp only [redB] at hb))))
      (refine ⟨_, _, rfl, by simp, ?_⟩; simp only [aTup, AA.get, List.getD_cons_zero, List.getD_cons_succ, true_and])
      exact ⟨h2.sub (St.sub_refl st), trivial⟩)
end Go.Almanac

/- Scripts by a seed: an event. -/
namespace Go.Almanac
open Go.RowKit Go.Proofs Go.Abs

set_option linter.unusedSimpArgs false
set_option linter.unusedVariables false
set_option linter.unusedSectionVars false
set_option maxRecDepth 10000
set_option maxHeartbeats 1000000

def evTimeV (n2 n3 : Int) : Int := 1735689600 + n2 % 60 * 86400 + n3 % 24 * 3600
def evHeadV (u ts h : List UInt8) : List (List UInt8) := [[66, 69, 71, 73, 78, 58, 86, 67, 65, 76, 69, 78, 68, 65, 82], [86, 69, 82, 83, 73, 79, 78, 58, 50, 46, 48], [80, 82, 79, 68, 73, 68, 58, 103, 101, 110], [66, 69, 71, 73, 78, 58, 86, 69, 86, 69, 78, 84], [85, 73, 68, 58, 103] ++ u, [68, 84, 83, 84, 65, 82, 84, 58] ++ ts ++ [90], [68, 85, 82, 65, 84, 73, 79, 78, 58, 80, 84] ++ h ++ [72]]
def freqS (k : Int) : List UInt8 := if k = 1 then [68, 65, 73, 76, 89, 59, 67, 79, 85, 78, 84, 61, 51] else if k = 2 then [87, 69, 69, 75, 76, 89, 59, 67, 79, 85, 78, 84, 61, 50] else []
def ruleT (k : Int) : List UInt8 := [82, 82, 85, 76, 69, 58, 70, 82, 69, 81, 61] ++ freqS k
def ruleS (k : Int) : List (List UInt8) := if freqS k = [] then [] else [ruleT k]
def withS (k : Int) : List (List UInt8) := if k = 1 then [[79, 82, 71, 65, 78, 73, 90, 69, 82, 58, 109, 97, 105, 108, 116, 111, 58, 97, 64, 97, 108, 109, 97, 110, 97, 99], [65, 84, 84, 69, 78, 68, 69, 69, 58, 109, 97, 105, 108, 116, 111, 58, 98, 64, 97, 108, 109, 97, 110, 97, 99]] else []
def evLinesV (u ts h : List UInt8) (k5 k6 : Int) : List (List UInt8) := evHeadV u ts h ++ ruleS k5 ++ withS k6 ++ [[69, 78, 68, 58, 86, 69, 86, 69, 78, 84], [69, 78, 68, 58, 86, 67, 65, 76, 69, 78, 68, 65, 82]]
noncomputable def eventV (u ts h : List UInt8) (k5 k6 : Int) : List UInt8 := Lib.join (evLinesV u ts h k5 k6 ++ [[]]) [13, 10]
theorem join_last : ∀ (l : List (List UInt8)) (sep : List UInt8), Lib.join (l ++ [[]]) sep = (l.map (· ++ sep)).flatten
  | [], sep => by simp [Lib.join]
  | [x], sep => by simp [Lib.join, List.intercalate, List.intersperse]
  | x :: y :: l, sep => by
    have ih := join_last (y :: l) sep
    simp only [Lib.join, List.intercalate, List.cons_append, List.intersperse, List.map_cons, List.flatten_cons, List.append_assoc] at ih ⊢
    rw [ih]
theorem eventV_eq (u ts h : List UInt8) (k5 k6 : Int) : eventV u ts h k5 k6 = ((evLinesV u ts h k5 k6).map (· ++ [13, 10])).flatten := join_last _ _
theorem freqS_len (k : Int) : (freqS k).length ≤ 14 := by
  unfold freqS
  split
  · decide
  · split <;> decide
theorem eventV_len (u ts h : List UInt8) (k5 k6 : Int) (hu : u.length ≤ 20) (hts : ts.length ≤ 15) (hh : h.length ≤ 20) : (eventV u ts h k5 k6).length ≤ 1000 := by
  have hf := freqS_len k5
  rw [eventV_eq]
  unfold evLinesV ruleS withS ruleT
  split <;> split <;> simp [evHeadV] <;> omega
/-- The event of a seed. -/
noncomputable def eventF (s : Int) : List UInt8 := eventV (numT (numF s 1 % 6)) (stampF (evTimeV (numF s 2) (numF s 3))) (numT (numF s 4 % 5)) (numF s 5 % 4) (numF s 6 % 3)
theorem t_StampV (G : Nat → AV) (t : Int) (h0 : -9223372036854775808 ≤ t) (h1 : t ≤ 9223372036854775807) (st : St) : ACalls (Ev G) 20 [.int .i64 t] st (fun e st' => st' = st ∧ e = .ret (.str (stampF t))) :=
  ACalls.mono (t_Stamp G t h0 h1 st) (fun _ _ h => ⟨h.1, h.2.2⟩)
theorem stampF_len35 (t : Int) : (stampF t).length ≤ 15 := by
  have := dayF_length (t / 86400)
  unfold stampF
  split
  · simp [clockT_length]; omega
  · simp
theorem evTime_bounds (a b : Int) : 1735689600 ≤ evTimeV a b ∧ evTimeV a b ≤ 1800000000 := by unfold evTimeV; omega

attribute [-go_sem] aIndexAddr
def six (n1 n2 n3 n4 n5 n6 : Int) : List AV := [.int .u64 n1, .int .u64 n2, .int .u64 n3, .int .u64 n4, .int .u64 n5, .int .u64 n6]
variable (n1 n2 n3 n4 n5 n6 : Int) (k : IntKind)
@[local go_sem] theorem ia_0 : aIndexAddr Tryd.prog 35 (.fptr (six n1 n2 n3 n4 n5 n6)) (.int k 0) = some (True, .fptr [.int .u64 n1, .int .u64 n2, .int .u64 n3, .int .u64 n4, .int .u64 n5, .int .u64 n6]) := by
  show some (((0 : Int) ≤ 0 ∧ (0 : Int) < 6) ∧ _, _) = some (True, _)
  refine congrArg some (Prod.ext (eq_true ⟨by decide, ?_⟩) rfl)
  exact Nat.le_of_ble_eq_true rfl
@[local go_sem] theorem ia_1 : aIndexAddr Tryd.prog 35 (.fptr (six n1 n2 n3 n4 n5 n6)) (.int k 1) = some (True, .fptr [.int .u64 n2, .int .u64 n3, .int .u64 n4, .int .u64 n5, .int .u64 n6]) := by
  show some (((0 : Int) ≤ 1 ∧ (1 : Int) < 6) ∧ _, _) = some (True, _)
  refine congrArg some (Prod.ext (eq_true ⟨by decide, ?_⟩) rfl)
  exact Nat.le_of_ble_eq_true rfl
@[local go_sem] theorem ia_2 : aIndexAddr Tryd.prog 35 (.fptr (six n1 n2 n3 n4 n5 n6)) (.int k 2) = some (True, .fptr [.int .u64 n3, .int .u64 n4, .int .u64 n5, .int .u64 n6]) := by
  show some (((0 : Int) ≤ 2 ∧ (2 : Int) < 6) ∧ _, _) = some (True, _)
  refine congrArg some (Prod.ext (eq_true ⟨by decide, ?_⟩) rfl)
  exact Nat.le_of_ble_eq_true rfl
@[local go_sem] theorem ia_3 : aIndexAddr Tryd.prog 35 (.fptr (six n1 n2 n3 n4 n5 n6)) (.int k 3) = some (True, .fptr [.int .u64 n4, .int .u64 n5, .int .u64 n6]) := by
  show some (((0 : Int) ≤ 3 ∧ (3 : Int) < 6) ∧ _, _) = some (True, _)
  refine congrArg some (Prod.ext (eq_true ⟨by decide, ?_⟩) rfl)
  exact Nat.le_of_ble_eq_true rfl
@[local go_sem] theorem ia_4 : aIndexAddr Tryd.prog 35 (.fptr (six n1 n2 n3 n4 n5 n6)) (.int k 4) = some (True, .fptr [.int .u64 n5, .int .u64 n6]) := by
  show some (((0 : Int) ≤ 4 ∧ (4 : Int) < 6) ∧ _, _) = some (True, _)
  refine congrArg some (Prod.ext (eq_true ⟨by decide, ?_⟩) rfl)
  exact Nat.le_of_ble_eq_true rfl
@[local go_sem] theorem ia_5 : aIndexAddr Tryd.prog 35 (.fptr (six n1 n2 n3 n4 n5 n6)) (.int k 5) = some (True, .fptr [.int .u64 n6]) := by
  show some (((0 : Int) ≤ 5 ∧ (5 : Int) < 6) ∧ _, _) = some (True, _)
  refine congrArg some (Prod.ext (eq_true ⟨by decide, ?_⟩) rfl)
  exact Nat.le_of_ble_eq_true rfl
theorem six_cells (n1 n2 n3 n4 n5 n6 : Int) : (six n1 n2 n3 n4 n5 n6).all isCell = true := rfl
@[local go_sem] theorem fl_a4 (f : Nat) : fldOf Tryd.prog 44 f = none := rfl
def freqA : List AV := [.str [], .str [68, 65, 73, 76, 89, 59, 67, 79, 85, 78, 84, 61, 51], .str [87, 69, 69, 75, 76, 89, 59, 67, 79, 85, 78, 84, 61, 50], .str []]
attribute [-go_sem] aIndex
@[local go_sem] theorem ix_freq (k : IntKind) (j : Int) (h0 : 0 ≤ j) (h1 : j < 4) : aIndex Tryd.prog 44 (.agg freqA) (.int k j) = some (True, .str (freqS j)) := by
  show some ((0 ≤ j ∧ j < 4) ∧ _, _) = some (True, _)
  rcases (show j = 0 ∨ j = 1 ∨ j = 2 ∨ j = 3 by omega) with rfl | rfl | rfl | rfl
  all_goals
    refine congrArg some (Prod.ext (eq_true ⟨by decide, ?_⟩) rfl)
    exact Nat.le_of_ble_eq_true rfl
set_option maxHeartbeats 4000000 in
theorem t_EventV (G : Nat → AV) (s n1 n2 n3 n4 n5 n6 : Int) (u ts h : List UInt8)
    (q1 : 0 ≤ n1 ∧ n1 ≤ 18446744073709551615) (q2 : 0 ≤ n2 ∧ n2 ≤ 18446744073709551615) (q3 : 0 ≤ n3 ∧ n3 ≤ 18446744073709551615) (q4 : 0 ≤ n4 ∧ n4 ≤ 18446744073709551615) (q5 : 0 ≤ n5 ∧ n5 ≤ 18446744073709551615) (q6 : 0 ≤ n6 ∧ n6 ≤ 18446744073709551615)
    (hu : u.length ≤ 20) (hts : ts.length ≤ 15) (hh : h.length ≤ 20)
    (d1 : ∀ σ : St, ACalls (Ev G) 15 [.int .u64 s] σ (fun e st' => st' = σ ∧ e = .ret (.agg (six n1 n2 n3 n4 n5 n6))))
    (d4 : ∀ σ : St, ACalls (Ev G) 19 [.int .u64 (n1 % 6)] σ (fun e st' => st' = σ ∧ e = .ret (.str u)))
    (d5 : ∀ σ : St, ACalls (Ev G) 20 [.int .i64 (1735689600 + n2 % 60 * 86400 + n3 % 24 * 3600)] σ (fun e st' => st' = σ ∧ e = .ret (.str ts)))
    (d7 : ∀ σ : St, ACalls (Ev G) 19 [.int .u64 (n4 % 5)] σ (fun e st' => st' = σ ∧ e = .ret (.str h))) (st : St) :
    ACalls (Ev G) 10 [.int .u64 s] st (fun e st' => st' = st ∧ e = .ret (.str (eventV u ts h (n5 % 4) (n6 % 3)))) := by
  refine ACalls.thaw (R' := fun e st' => st.sub st' ∧ e = .ret (.str (eventV u ts h (n5 % 4) (n6 % 3)))) ?_ (fun x st1 h => ⟨2, st, h.1, rfl, by rw [h.2]; rfl⟩)
  refine ACalls.of_body Tryd.func10 rfl ?_
  rw [Tryd.ntmps10]
  simp only [List.length_cons, List.length_nil, Nat.reduceAdd, Nat.reduceSub, List.replicate_succ, List.replicate_zero, List.cons_append, List.nil_append]
  (repeat' (first | refine AW.seq ?_ | refine AW.scope ?_ | refine AW.label ?_ | refine AW.block ?_ | refine AW.skip ?_ | refine AW.exit ?_ | refine AW.ret ?_))
  (refine AW.regionC fun Q' Kn hQ hK hK' => ?_; (repeat simp (disch := omega) only [go_sem, redN, Nat.reduceAdd, Int.reduceToNat, Int.reducePow]); (repeat' refine And.intro ?_ ?_); (try any_goals (first | (refine hK _ _ ?_; clear hK' hQ hK Q' Kn) | (intro hq9; refine ⟨hq9, ?_⟩; simp only [redB] at hq9; omega) | (intro hq9; refine ⟨hq9, fun hq8 => ?_⟩; rw [hq9, hq8]; rfl) | (simp; done) | omega | (simp only [redL]; omega) | (simp; omega) | (intros; (repeat' refine And.intro ?_ ?_) <;> (first | assumption | omega | (simp; done))))))
  (repeat' (first | refine AW.seq ?_ | refine AW.scope ?_ | refine AW.label ?_ | refine AW.block ?_ | refine AW.skip ?_ | refine AW.exit ?_ | refine AW.ret ?_))
  (refine AW.regionC fun Q' Kn hQ hK hK' => ?_; (repeat simp (disch := omega) only [go_sem, redN, Nat.reduceAdd, Int.reduceToNat, Int.reducePow]); (repeat' refine And.intro ?_ ?_); (try any_goals (first | (refine hK _ _ ?_; clear hK' hQ hK Q' Kn) | (intro hq9; refine ⟨hq9, ?_⟩; simp only [redB] at hq9; omega) | (intro hq9; refine ⟨hq9, fun hq8 => ?_⟩; rw [hq9, hq8]; rfl) | (simp; done) | omega | (simp only [redL]; omega) | (simp; omega) | (intros; (repeat' refine And.intro ?_ ?_) <;> (first | assumption | omega | (simp; done))))))
  refine AOp.call rfl (by simp only [go_sem]; rfl) (by simp [go_sem]) rfl (ACalls.mono (by simp only [go_sem]; exact d1 _) ?_)
  rintro e st' ⟨rfl, rfl⟩
  (refine AOpsC_ok hK' _ _ _ ?_; (repeat simp (disch := omega) only [go_sem, redN, Nat.reduceAdd, Int.reduceToNat, Int.reducePow]); (repeat' refine And.intro ?_ ?_); (try any_goals (first | (refine hK _ _ ?_; clear hK' hQ hK Q' Kn) | (intro hq9; refine ⟨hq9, ?_⟩; simp only [redB] at hq9; omega) | (intro hq9; refine ⟨hq9, fun hq8 => ?_⟩; rw [hq9, hq8]; rfl) | (simp; done) | omega | (simp only [redL]; omega) | (simp; omega) | (intros; (repeat' refine And.intro ?_ ?_) <;> (first | assumption | omega | (simp; done))))))
  refine AOp.alloc rfl (by simp only [go_sem]; rfl) fun b3 hb3 => ?_
  (refine AOpsC_ok hK' _ _ _ ?_; (repeat simp (disch := omega) only [go_sem, redN, Nat.reduceAdd, Int.reduceToNat, Int.reducePow]); (repeat' refine And.intro ?_ ?_); (try any_goals (first | (refine hK _ _ ?_; clear hK' hQ hK Q' Kn) | (intro hq9; refine ⟨hq9, ?_⟩; simp only [redB] at hq9; omega) | (intro hq9; refine ⟨hq9, fun hq8 => ?_⟩; rw [hq9, hq8]; rfl) | (simp; done) | omega | (simp only [redL]; omega) | (simp; omega) | (intros; (repeat' refine And.intro ?_ ?_) <;> (first | assumption | omega | (simp; done))))))
  refine AOp.storeAll (cs := six n1 n2 n3 n4 n5 n6) rfl (by simp only [go_sem] <;> rfl) (by simp [go_sem]) (St.set_same _ _ _) (by simp [go_sem, aCells]) rfl rfl rfl rfl ?_
  (refine AOpsC_ok hK' _ _ _ ?_; (repeat simp (disch := omega) only [go_sem, redN, Nat.reduceAdd, Int.reduceToNat, Int.reducePow]); (repeat' refine And.intro ?_ ?_); (try any_goals (first | (refine hK _ _ ?_; clear hK' hQ hK Q' Kn) | (intro hq9; refine ⟨hq9, ?_⟩; simp only [redB] at hq9; omega) | (intro hq9; refine ⟨hq9, fun hq8 => ?_⟩; rw [hq9, hq8]; rfl) | (simp; done) | omega | (simp only [redL]; omega) | (simp; omega) | (intros; (repeat' refine And.intro ?_ ?_) <;> (first | assumption | omega | (simp; done))))))
  rw [St.set_set]
  refine AW.freeze 3 rfl (St.set_same _ _ _) ?_
  rw [St.del_set _ _ hb3]
  (repeat' (first | refine AW.seq ?_ | refine AW.scope ?_ | refine AW.label ?_ | refine AW.block ?_ | refine AW.skip ?_ | refine AW.exit ?_ | refine AW.ret ?_))
  (refine AW.regionC fun Q' Kn hQ hK hK' => ?_; (repeat simp (disch := omega) only [go_sem, redN, Nat.reduceAdd, Int.reduceToNat, Int.reducePow]); (repeat' refine And.intro ?_ ?_); (try any_goals (first | (refine hK _ _ ?_; clear hK' hQ hK Q' Kn) | (intro hq9; refine ⟨hq9, ?_⟩; simp only [redB] at hq9; omega) | (intro hq9; refine ⟨hq9, fun hq8 => ?_⟩; rw [hq9, hq8]; rfl) | (simp; done) | omega | (simp only [redL]; omega) | (simp; omega) | (intros; (repeat' refine And.intro ?_ ?_) <;> (first | assumption | omega | (simp; done))))))
  obtain ⟨t, ht⟩ : ∃ t, 1735689600 + n2 % 60 * 86400 + n3 % 24 * 3600 = t := ⟨_, rfl⟩
  rw [ht] at d5 ⊢
  have hev : 1735689600 ≤ t ∧ t ≤ 1800000000 := by omega
  clear ht
  (repeat' (first | refine AW.seq ?_ | refine AW.scope ?_ | refine AW.label ?_ | refine AW.block ?_ | refine AW.skip ?_ | refine AW.exit ?_ | refine AW.ret ?_))
  refine AW.drawnM 17 [15] (List.range 17) (by decide +kernel) fun Q' Kn hQ hK hK' => ?_
  refine FxMC_ok (by intro i hi a o ho; simp only [List.mem_cons, List.not_mem_nil, or_false] at hi; rcases hi with rfl | rfl | rfl | rfl <;> (cases ho; rfl)) _ _ _ ?_
  simp (disch := omega) only [go_sem, redN, Nat.reduceAdd, Int.reduceToNat, Int.reducePow]
  refine ⟨by decide, ?_⟩
  refine FxM.fixed (by decide +kernel) (Fixed.call (f := 19) (v := .str u) rfl rfl rfl (by simp only [go_sem] <;> rfl) (by simp [go_sem]) rfl (by simp only [go_sem]; exact d4 _)) ?_
  refine FxMC_ok (by intro i hi a o ho; simp only [List.mem_cons, List.not_mem_nil, or_false] at hi; rcases hi with rfl | rfl | rfl | rfl <;> (cases ho; rfl)) _ _ _ ?_
  simp (disch := omega) only [go_sem, redN, Nat.reduceAdd, Int.reduceToNat, Int.reducePow]
  refine ⟨by omega, ?_⟩
  refine FxM.fixed (by decide +kernel) (Fixed.call (f := 20) (v := .str ts) rfl rfl rfl (by simp only [go_sem] <;> rfl) (by simp [go_sem]) rfl (by simp only [go_sem]; exact d5 _)) ?_
  refine FxMC_ok (by intro i hi a o ho; simp only [List.mem_cons, List.not_mem_nil, or_false] at hi; rcases hi with rfl | rfl | rfl | rfl <;> (cases ho; rfl)) _ _ _ ?_
  simp (disch := omega) only [go_sem, redN, Nat.reduceAdd, Int.reduceToNat, Int.reducePow]
  refine ⟨by omega, by omega, by decide, ?_⟩
  refine FxM.fixed (by decide +kernel) (Fixed.call (f := 19) (v := .str h) rfl rfl rfl (by simp only [go_sem] <;> rfl) (by simp [go_sem]) rfl (by simp only [go_sem]; exact d7 _)) ?_
  refine FxMC_ok (by intro i hi a o ho; simp only [List.mem_cons, List.not_mem_nil, or_false] at hi; rcases hi with rfl | rfl | rfl | rfl <;> (cases ho; rfl)) _ _ _ ?_
  simp (disch := omega) only [go_sem, redN, Nat.reduceAdd, Int.reduceToNat, Int.reducePow]
  refine ⟨by omega, by simp; omega, ?_⟩
  refine FxM.moves rfl (Moves.buildSlice (e := 9) (sz := 1) (es := strsE (evHeadV u ts h)) rfl rfl rfl rfl rfl rfl (by simp [partsC, go_sem]) (by simp [aParts, go_sem, strsE, evHeadV]) (by simp [strsE, evHeadV]) rfl (by decide) (by decide)) ?_
  rintro _ _ ⟨it, hit, rfl, rfl⟩
  refine FxMC_ok (by intro i hi a o ho; simp only [List.mem_cons, List.not_mem_nil, or_false] at hi; rcases hi with rfl | rfl | rfl | rfl <;> (cases ho; rfl)) _ _ _ ?_
  simp (disch := omega) only [go_sem, redN, Nat.reduceAdd, Int.reduceToNat, Int.reducePow]
  refine hK _ _ ?_
  clear hK' hQ hK Q' Kn d4 d5 d7
  have h1 : SW st' 9 1 (.arr it 0 1 0 7) (st'.set it (.cells 9 0 1 (strsE (evHeadV u ts h)))) (strsE (evHeadV u ts h)) := ⟨.inr ⟨it, 0, rfl, St.set_same _ _ _, hit⟩, fun i hi => St.set_ne _ _ (fun e => hi (by rw [e]; exact hit))⟩
  generalize St.set st' it _ = σ1 at h1 ⊢
  (repeat' (first | refine AW.seq ?_ | refine AW.scope ?_ | refine AW.label ?_ | refine AW.block ?_ | refine AW.skip ?_ | refine AW.exit ?_ | refine AW.ret ?_))
  (refine AW.regionC fun Q' Kn hQ hK hK' => ?_; (repeat simp (disch := omega) only [go_sem, redN, Nat.reduceAdd, Int.reduceToNat, Int.reducePow]); (repeat' refine And.intro ?_ ?_); (try any_goals (first | (refine hK _ _ ?_; clear hK' hQ hK Q' Kn) | (intro hq9; refine ⟨hq9, ?_⟩; simp only [redB] at hq9; omega) | (intro hq9; refine ⟨hq9, fun hq8 => ?_⟩; rw [hq9, hq8]; rfl) | (simp; done) | omega | (simp only [redL]; omega) | (simp; omega) | (intros; (repeat' refine And.intro ?_ ?_) <;> (first | assumption | omega | (simp; done))))))
  refine AOp.buildArr (e := 9) (n := 4) (sz := 1) (es := strsE [[], [68, 65, 73, 76, 89, 59, 67, 79, 85, 78, 84, 61, 51], [87, 69, 69, 75, 76, 89, 59, 67, 79, 85, 78, 84, 61, 50], []]) rfl rfl rfl rfl (by simp [partsC, go_sem]) (by simp [aParts, go_sem, aCells, strsE]) (by simp [strsE]) rfl ?_
  rw [show (strsE [[], [68, 65, 73, 76, 89, 59, 67, 79, 85, 78, 84, 61, 51], [87, 69, 69, 75, 76, 89, 59, 67, 79, 85, 78, 84, 61, 50], []]).flatten = freqA from rfl]
  (refine AOpsC_ok hK' _ _ _ ?_; (repeat simp (disch := omega) only [go_sem, redN, Nat.reduceAdd, Int.reduceToNat, Int.reducePow]); (repeat' refine And.intro ?_ ?_); (try any_goals (first | (refine hK _ _ ?_; clear hK' hQ hK Q' Kn) | (intro hq9; refine ⟨hq9, ?_⟩; simp only [redB] at hq9; omega) | (intro hq9; refine ⟨hq9, fun hq8 => ?_⟩; rw [hq9, hq8]; rfl) | (simp; done) | omega | (simp only [redL]; omega) | (simp; omega) | (intros; (repeat' refine And.intro ?_ ?_) <;> (first | assumption | omega | (simp; done))))))
  have hj0 : 0 ≤ n5 % 4 := by omega
  have hj1 : n5 % 4 < 4 := by omega
  have hk0 : 0 ≤ n6 % 3 := by omega
  have hk1 : n6 % 3 < 3 := by omega
  generalize hj : n5 % 4 = j at hj0 hj1 ⊢
  have hf := freqS_len j
  have l1 : (evHeadV u ts h).length = 7 := rfl
  have l2 : (ruleS j).length ≤ 1 := by unfold ruleS; split <;> simp
  have l3 : (withS (n6 % 3)).length ≤ 2 := by unfold withS; split <;> simp
  (repeat' (first | refine AW.seq ?_ | refine AW.scope ?_ | refine AW.label ?_ | refine AW.block ?_ | refine AW.skip ?_ | refine AW.exit ?_ | refine AW.ret ?_))
  (refine AW.regionC fun Q' Kn hQ hK hK' => ?_; (repeat simp (disch := omega) only [go_sem, redN, Nat.reduceAdd, Int.reduceToNat, Int.reducePow]); (repeat' refine And.intro ?_ ?_); (try any_goals (first | (refine hK _ _ ?_; clear hK' hQ hK Q' Kn) | (intro hq9; refine ⟨hq9, ?_⟩; simp only [redB] at hq9; omega) | (intro hq9; refine ⟨hq9, fun hq8 => ?_⟩; rw [hq9, hq8]; rfl) | (simp; done) | omega | (simp only [redL]; omega) | (simp; omega) | (intros; (repeat' refine And.intro ?_ ?_) <;> (first | assumption | omega | (simp; done))))))
  (repeat' (first | refine AW.seq ?_ | refine AW.scope ?_ | refine AW.label ?_ | refine AW.block ?_ | refine AW.skip ?_ | refine AW.exit ?_ | refine AW.ret ?_))
  refine AW.cutE (fun x : AV × St => [.int .u64 s, .junk, .junk, .fptr (six n1 n2 n3 n4 n5 n6), .junk, x.1, .junk, .junk, .junk, .junk, .junk, .junk, .junk, .junk, .junk, .junk, .junk, .junk, .junk, .junk, .junk, .junk, .junk, .junk, .junk, .junk, .junk, .junk, .junk, .junk, .junk, .junk, .junk, .junk, .junk, .junk, .junk, .junk, .junk, .junk, .junk, .junk, .junk, .junk, .junk, .junk, .junk, .junk, .junk, .junk, .junk, .junk, .junk, .junk, .junk, .junk, .junk, .junk, .junk, .junk, .junk]) (fun x => x.2) (fun x => SW st' 9 1 x.1 x.2 (strsE (evHeadV u ts h ++ ruleS j))) ?_ ?_
  · (refine AW.cond (by simp (disch := omega) only [go_sem, redN, Nat.reduceAdd, Int.reduceToNat, Int.reducePow]; rfl) (fun hb => ?_) (fun hb => ?_) <;> (try simp only [redB] at hb))
    · (repeat' (first | refine AW.seq ?_ | refine AW.scope ?_ | refine AW.label ?_ | refine AW.block ?_ | refine AW.skip ?_ | refine AW.exit ?_ | refine AW.ret ?_))
      (refine AW.regionC fun Q' Kn hQ hK hK' => ?_; (repeat simp (disch := omega) only [go_sem, redN, Nat.reduceAdd, Int.reduceToNat, Int.reducePow]); (repeat' refine And.intro ?_ ?_); (try any_goals (first | (refine hK _ _ ?_; clear hK' hQ hK Q' Kn) | (intro hq9; refine ⟨hq9, ?_⟩; simp only [redB] at hq9; omega) | (intro hq9; refine ⟨hq9, fun hq8 => ?_⟩; rw [hq9, hq8]; rfl) | (simp; done) | omega | (simp only [redL]; omega) | (simp; omega) | (intros; (repeat' refine And.intro ?_ ?_) <;> (first | assumption | omega | (simp; done))))))
      refine AOp.buildSlice (e := 9) (sz := 1) (es := strsE [ruleT j]) rfl rfl rfl rfl (by simp [partsC, go_sem]) (by simp [aParts, go_sem, strsE, ruleT]) (by simp [strsE]) rfl (by decide) (by decide) fun it2 hit2 => ?_
      (refine AOpsC_ok hK' _ _ _ ?_; (repeat simp (disch := omega) only [go_sem, redN, Nat.reduceAdd, Int.reduceToNat, Int.reducePow]); (repeat' refine And.intro ?_ ?_); (try any_goals (first | (refine hK _ _ ?_; clear hK' hQ hK Q' Kn) | (intro hq9; refine ⟨hq9, ?_⟩; simp only [redB] at hq9; omega) | (intro hq9; refine ⟨hq9, fun hq8 => ?_⟩; rw [hq9, hq8]; rfl) | (simp; done) | omega | (simp only [redL]; omega) | (simp; omega) | (intros; (repeat' refine And.intro ?_ ?_) <;> (first | assumption | omega | (simp; done))))))
      refine AOp.appendE (e := 9) (sz := 1) (by_ := 16) (es := strsE (evHeadV u ts h)) (xs := strsE [ruleT j]) rfl rfl rfl rfl rfl rfl rfl (by decide) h1 hit2 rfl (by simp [isCell, strsE]) (by simp only [strsE_length, List.length_cons, List.length_nil]; omega) (by simp only [strsE_length, maxLen, List.length_cons, List.length_nil]; omega) (by simp [strsE]) fun v' σ' h9 => ?_
      (refine AOpsC_ok hK' _ _ _ ?_; (repeat simp (disch := omega) only [go_sem, redN, Nat.reduceAdd, Int.reduceToNat, Int.reducePow]); (repeat' refine And.intro ?_ ?_); (try any_goals (first | (refine hK _ _ ?_; clear hK' hQ hK Q' Kn) | (intro hq9; refine ⟨hq9, ?_⟩; simp only [redB] at hq9; omega) | (intro hq9; refine ⟨hq9, fun hq8 => ?_⟩; rw [hq9, hq8]; rfl) | (simp; done) | omega | (simp only [redL]; omega) | (simp; omega) | (intros; (repeat' refine And.intro ?_ ?_) <;> (first | assumption | omega | (simp; done))))))
      rw [← strsE_append] at h9
      (repeat' (first | refine AW.seq ?_ | refine AW.scope ?_ | refine AW.label ?_ | refine AW.block ?_ | refine AW.skip ?_ | refine AW.exit ?_ | refine AW.ret ?_ | (refine AW.regionC fun Q' Kn hQ hK hK' => ?_; (repeat simp (disch := omega) only [go_sem, redN, Nat.reduceAdd, Int.reduceToNat, Int.reducePow]); (repeat' refine And.intro ?_ ?_); (try any_goals (first | (refine hK _ _ ?_; clear hK' hQ hK Q' Kn) | (intro hq9; refine ⟨hq9, ?_⟩; simp only [redB] at hq9; omega) | (intro hq9; refine ⟨hq9, fun hq8 => ?_⟩; rw [hq9, hq8]; rfl) | (simp; done) | omega | (simp only [redL]; omega) | (simp; omega) | (intros; (repeat' refine And.intro ?_ ?_) <;> (first | assumption | omega | (simp; done)))))) | (refine AW.cond (by simp (disch := omega) only [go_sem, redN, Nat.reduceAdd, Int.reduceToNat, Int.reducePow]; rfl) (fun hb => ?_) (fun hb => ?_) <;> (try simp only [redB] at hb))))
      have hr : ruleS j = [ruleT j] := by rw [ruleS, if_neg hb]
      refine ⟨(v', σ'), by rw [hr]; exact h9, ?_, rfl, rfl⟩
      (repeat (first | exact Weak.nil | refine Weak.junk _ ?_ | refine Weak.same _ ?_ | refine Weak.eqv (by (congr 1; first | omega | (simp; done) | exact w_i64 (by omega) (by omega))) ?_))
    · (repeat' (first | refine AW.seq ?_ | refine AW.scope ?_ | refine AW.label ?_ | refine AW.block ?_ | refine AW.skip ?_ | refine AW.exit ?_ | refine AW.ret ?_))
      have hr : ruleS j = [] := by rw [ruleS, if_pos hb]
      refine ⟨(_, _), by rw [hr, List.append_nil]; exact h1, ?_, rfl, rfl⟩
      (repeat (first | exact Weak.nil | refine Weak.junk _ ?_ | refine Weak.same _ ?_ | refine Weak.eqv (by (congr 1; first | omega | (simp; done) | exact w_i64 (by omega) (by omega))) ?_))
  clear h1
  rintro ⟨v, σ⟩ h1
  dsimp only at h1 ⊢
  rcases h1.own with ⟨rfl, hz⟩ | ⟨i1, g1, rfl, _⟩
  · exact absurd hz (by simp [strsE, evHeadV])
  simp only [strsE_length] at h1
  have l4 : (evHeadV u ts h ++ ruleS j).length ≤ 8 := by rw [List.length_append]; omega
  (repeat' (first | refine AW.seq ?_ | refine AW.scope ?_ | refine AW.label ?_ | refine AW.block ?_ | refine AW.skip ?_ | refine AW.exit ?_ | refine AW.ret ?_))
  (refine AW.regionC fun Q' Kn hQ hK hK' => ?_; (repeat simp (disch := omega) only [go_sem, redN, Nat.reduceAdd, Int.reduceToNat, Int.reducePow]); (repeat' refine And.intro ?_ ?_); (try any_goals (first | (refine hK _ _ ?_; clear hK' hQ hK Q' Kn) | (intro hq9; refine ⟨hq9, ?_⟩; simp only [redB] at hq9; omega) | (intro hq9; refine ⟨hq9, fun hq8 => ?_⟩; rw [hq9, hq8]; rfl) | (simp; done) | omega | (simp only [redL]; omega) | (simp; omega) | (intros; (repeat' refine And.intro ?_ ?_) <;> (first | assumption | omega | (simp; done))))))
  (repeat' (first | refine AW.seq ?_ | refine AW.scope ?_ | refine AW.label ?_ | refine AW.block ?_ | refine AW.skip ?_ | refine AW.exit ?_ | refine AW.ret ?_))
  refine AW.cutE (fun x : AV × St => [.int .u64 s, .junk, .junk, .fptr (six n1 n2 n3 n4 n5 n6), .junk, x.1, .junk, .junk, .junk, .junk, .junk, .junk, .junk, .junk, .junk, .junk, .junk, .junk, .junk, .junk, .junk, .junk, .junk, .junk, .junk, .junk, .junk, .junk, .junk, .junk, .junk, .junk, .junk, .junk, .junk, .junk, .junk, .junk, .junk, .junk, .junk, .junk, .junk, .junk, .junk, .junk, .junk, .junk, .junk, .junk, .junk, .junk, .junk, .junk, .junk, .junk, .junk, .junk, .junk, .junk, .junk]) (fun x => x.2) (fun x => SW st' 9 1 x.1 x.2 (strsE (evHeadV u ts h ++ ruleS j ++ withS (n6 % 3)))) ?_ ?_
  · (refine AW.cond (by simp (disch := omega) only [go_sem, redN, Nat.reduceAdd, Int.reduceToNat, Int.reducePow]; rfl) (fun hb => ?_) (fun hb => ?_) <;> (try simp only [redB] at hb))
    · (repeat' (first | refine AW.seq ?_ | refine AW.scope ?_ | refine AW.label ?_ | refine AW.block ?_ | refine AW.skip ?_ | refine AW.exit ?_ | refine AW.ret ?_))
      (refine AW.regionC fun Q' Kn hQ hK hK' => ?_; (repeat simp (disch := omega) only [go_sem, redN, Nat.reduceAdd, Int.reduceToNat, Int.reducePow]); (repeat' refine And.intro ?_ ?_); (try any_goals (first | (refine hK _ _ ?_; clear hK' hQ hK Q' Kn) | (intro hq9; refine ⟨hq9, ?_⟩; simp only [redB] at hq9; omega) | (intro hq9; refine ⟨hq9, fun hq8 => ?_⟩; rw [hq9, hq8]; rfl) | (simp; done) | omega | (simp only [redL]; omega) | (simp; omega) | (intros; (repeat' refine And.intro ?_ ?_) <;> (first | assumption | omega | (simp; done))))))
      refine AOp.buildSlice (e := 9) (sz := 1) (es := strsE [[79, 82, 71, 65, 78, 73, 90, 69, 82, 58, 109, 97, 105, 108, 116, 111, 58, 97, 64, 97, 108, 109, 97, 110, 97, 99], [65, 84, 84, 69, 78, 68, 69, 69, 58, 109, 97, 105, 108, 116, 111, 58, 98, 64, 97, 108, 109, 97, 110, 97, 99]]) rfl rfl rfl rfl (by simp [partsC, go_sem]) (by simp [aParts, go_sem, strsE]) (by simp [strsE]) rfl (by decide) (by decide) fun it2 hit2 => ?_
      (refine AOpsC_ok hK' _ _ _ ?_; (repeat simp (disch := omega) only [go_sem, redN, Nat.reduceAdd, Int.reduceToNat, Int.reducePow]); (repeat' refine And.intro ?_ ?_); (try any_goals (first | (refine hK _ _ ?_; clear hK' hQ hK Q' Kn) | (intro hq9; refine ⟨hq9, ?_⟩; simp only [redB] at hq9; omega) | (intro hq9; refine ⟨hq9, fun hq8 => ?_⟩; rw [hq9, hq8]; rfl) | (simp; done) | omega | (simp only [redL]; omega) | (simp; omega) | (intros; (repeat' refine And.intro ?_ ?_) <;> (first | assumption | omega | (simp; done))))))
      refine AOp.appendE (e := 9) (sz := 1) (by_ := 16) (es := strsE (evHeadV u ts h ++ ruleS j)) (xs := strsE [[79, 82, 71, 65, 78, 73, 90, 69, 82, 58, 109, 97, 105, 108, 116, 111, 58, 97, 64, 97, 108, 109, 97, 110, 97, 99], [65, 84, 84, 69, 78, 68, 69, 69, 58, 109, 97, 105, 108, 116, 111, 58, 98, 64, 97, 108, 109, 97, 110, 97, 99]]) rfl rfl rfl rfl rfl rfl rfl (by decide) h1 hit2 rfl (by simp [isCell, strsE]) (by simp only [strsE_length, List.length_cons, List.length_nil]; omega) (by simp only [strsE_length, maxLen, List.length_cons, List.length_nil]; omega) (by simp [strsE]) fun v' σ' h9 => ?_
      (refine AOpsC_ok hK' _ _ _ ?_; (repeat simp (disch := omega) only [go_sem, redN, Nat.reduceAdd, Int.reduceToNat, Int.reducePow]); (repeat' refine And.intro ?_ ?_); (try any_goals (first | (refine hK _ _ ?_; clear hK' hQ hK Q' Kn) | (intro hq9; refine ⟨hq9, ?_⟩; simp only [redB] at hq9; omega) | (intro hq9; refine ⟨hq9, fun hq8 => ?_⟩; rw [hq9, hq8]; rfl) | (simp; done) | omega | (simp only [redL]; omega) | (simp; omega) | (intros; (repeat' refine And.intro ?_ ?_) <;> (first | assumption | omega | (simp; done))))))
      rw [← strsE_append] at h9
      (repeat' (first | refine AW.seq ?_ | refine AW.scope ?_ | refine AW.label ?_ | refine AW.block ?_ | refine AW.skip ?_ | refine AW.exit ?_ | refine AW.ret ?_ | (refine AW.regionC fun Q' Kn hQ hK hK' => ?_; (repeat simp (disch := omega) only [go_sem, redN, Nat.reduceAdd, Int.reduceToNat, Int.reducePow]); (repeat' refine And.intro ?_ ?_); (try any_goals (first | (refine hK _ _ ?_; clear hK' hQ hK Q' Kn) | (intro hq9; refine ⟨hq9, ?_⟩; simp only [redB] at hq9; omega) | (intro hq9; refine ⟨hq9, fun hq8 => ?_⟩; rw [hq9, hq8]; rfl) | (simp; done) | omega | (simp only [redL]; omega) | (simp; omega) | (intros; (repeat' refine And.intro ?_ ?_) <;> (first | assumption | omega | (simp; done)))))) | (refine AW.cond (by simp (disch := omega) only [go_sem, redN, Nat.reduceAdd, Int.reduceToNat, Int.reducePow]; rfl) (fun hb => ?_) (fun hb => ?_) <;> (try simp only [redB] at hb))))
      have hr : withS (n6 % 3) = [[79, 82, 71, 65, 78, 73, 90, 69, 82, 58, 109, 97, 105, 108, 116, 111, 58, 97, 64, 97, 108, 109, 97, 110, 97, 99], [65, 84, 84, 69, 78, 68, 69, 69, 58, 109, 97, 105, 108, 116, 111, 58, 98, 64, 97, 108, 109, 97, 110, 97, 99]] := by rw [withS, if_pos hb]
      refine ⟨(v', σ'), by rw [hr]; exact h9, ?_, rfl, rfl⟩
      (repeat (first | exact Weak.nil | refine Weak.junk _ ?_ | refine Weak.same _ ?_ | refine Weak.eqv (by (congr 1; first | omega | (simp; done) | exact w_i64 (by omega) (by omega))) ?_))
    · (repeat' (first | refine AW.seq ?_ | refine AW.scope ?_ | refine AW.label ?_ | refine AW.block ?_ | refine AW.skip ?_ | refine AW.exit ?_ | refine AW.ret ?_))
      have hr : withS (n6 % 3) = [] := by rw [withS, if_neg hb]
      refine ⟨(_, _), by rw [hr, List.append_nil]; exact h1, ?_, rfl, rfl⟩
      (repeat (first | exact Weak.nil | refine Weak.junk _ ?_ | refine Weak.same _ ?_ | refine Weak.eqv (by (congr 1; first | omega | (simp; done) | exact w_i64 (by omega) (by omega))) ?_))
  clear h1
  rintro ⟨v, σ⟩ h1
  dsimp only at h1 ⊢
  rcases h1.own with ⟨rfl, hz⟩ | ⟨i2, g2, rfl, _⟩
  · exact absurd hz (by simp [strsE, evHeadV])
  simp only [strsE_length] at h1
  have l5 : (evHeadV u ts h ++ ruleS j ++ withS (n6 % 3)).length ≤ 10 := by rw [List.length_append]; omega
  (repeat' (first | refine AW.seq ?_ | refine AW.scope ?_ | refine AW.label ?_ | refine AW.block ?_ | refine AW.skip ?_ | refine AW.exit ?_ | refine AW.ret ?_))
  (refine AW.regionC fun Q' Kn hQ hK hK' => ?_; (repeat simp (disch := omega) only [go_sem, redN, Nat.reduceAdd, Int.reduceToNat, Int.reducePow]); (repeat' refine And.intro ?_ ?_); (try any_goals (first | (refine hK _ _ ?_; clear hK' hQ hK Q' Kn) | (intro hq9; refine ⟨hq9, ?_⟩; simp only [redB] at hq9; omega) | (intro hq9; refine ⟨hq9, fun hq8 => ?_⟩; rw [hq9, hq8]; rfl) | (simp; done) | omega | (simp only [redL]; omega) | (simp; omega) | (intros; (repeat' refine And.intro ?_ ?_) <;> (first | assumption | omega | (simp; done))))))
  refine AOp.buildSlice (e := 9) (sz := 1) (es := strsE [[69, 78, 68, 58, 86, 69, 86, 69, 78, 84], [69, 78, 68, 58, 86, 67, 65, 76, 69, 78, 68, 65, 82], []]) rfl rfl rfl rfl (by simp [partsC, go_sem]) (by simp [aParts, go_sem, strsE]) (by simp [strsE]) rfl (by decide) (by decide) fun it2 hit2 => ?_
  (refine AOpsC_ok hK' _ _ _ ?_; (repeat simp (disch := omega) only [go_sem, redN, Nat.reduceAdd, Int.reduceToNat, Int.reducePow]); (repeat' refine And.intro ?_ ?_); (try any_goals (first | (refine hK _ _ ?_; clear hK' hQ hK Q' Kn) | (intro hq9; refine ⟨hq9, ?_⟩; simp only [redB] at hq9; omega) | (intro hq9; refine ⟨hq9, fun hq8 => ?_⟩; rw [hq9, hq8]; rfl) | (simp; done) | omega | (simp only [redL]; omega) | (simp; omega) | (intros; (repeat' refine And.intro ?_ ?_) <;> (first | assumption | omega | (simp; done))))))
  refine AOp.appendE (e := 9) (sz := 1) (by_ := 16) (es := strsE (evHeadV u ts h ++ ruleS j ++ withS (n6 % 3))) (xs := strsE [[69, 78, 68, 58, 86, 69, 86, 69, 78, 84], [69, 78, 68, 58, 86, 67, 65, 76, 69, 78, 68, 65, 82], []]) rfl rfl rfl rfl rfl rfl rfl (by decide) h1 hit2 rfl (by simp [isCell, strsE]) (by simp only [strsE_length, List.length_cons, List.length_nil]; omega) (by simp only [strsE_length, maxLen, List.length_cons, List.length_nil]; omega) (by simp [strsE]) fun v' σ' h9 => ?_
  (refine AOpsC_ok hK' _ _ _ ?_; (repeat simp (disch := omega) only [go_sem, redN, Nat.reduceAdd, Int.reduceToNat, Int.reducePow]); (repeat' refine And.intro ?_ ?_); (try any_goals (first | (refine hK _ _ ?_; clear hK' hQ hK Q' Kn) | (intro hq9; refine ⟨hq9, ?_⟩; simp only [redB] at hq9; omega) | (intro hq9; refine ⟨hq9, fun hq8 => ?_⟩; rw [hq9, hq8]; rfl) | (simp; done) | omega | (simp only [redL]; omega) | (simp; omega) | (intros; (repeat' refine And.intro ?_ ?_) <;> (first | assumption | omega | (simp; done))))))
  rw [← strsE_append] at h9
  simp only [List.append_assoc, List.cons_append, List.nil_append] at h9
  have hL : ∀ l : List (List UInt8), l = evHeadV u ts h ++ (ruleS j ++ (withS (n6 % 3) ++ [[69, 78, 68, 58, 86, 69, 86, 69, 78, 84], [69, 78, 68, 58, 86, 67, 65, 76, 69, 78, 68, 65, 82], []])) → l = evLinesV u ts h j (n6 % 3) ++ [[]] := by
    rintro _ rfl; simp [evLinesV]
  rw [hL _ rfl] at h9
  have l6 : (evLinesV u ts h j (n6 % 3) ++ [[]]).length ≤ 13 := by simp only [evLinesV, List.length_append, List.length_cons, List.length_nil]; omega
  rcases h9.own with ⟨rfl, hz⟩ | ⟨i3, g3, rfl, _⟩
  · exact absurd hz (by simp [strsE, evLinesV, evHeadV])
  (repeat' (first | refine AW.seq ?_ | refine AW.scope ?_ | refine AW.label ?_ | refine AW.block ?_ | refine AW.skip ?_ | refine AW.exit ?_ | refine AW.ret ?_))
  refine AW.settleT 5 rfl h9 (by intro e he c hc; rfl) ?_
  (repeat' (first | refine AW.seq ?_ | refine AW.scope ?_ | refine AW.label ?_ | refine AW.block ?_ | refine AW.skip ?_ | refine AW.exit ?_ | refine AW.ret ?_))
  (refine AW.regionC fun Q' Kn hQ hK hK' => ?_; (repeat simp (disch := omega) only [go_sem, redN, Nat.reduceAdd, Int.reduceToNat, Int.reducePow]); (repeat' refine And.intro ?_ ?_); (try any_goals (first | (refine hK _ _ ?_; clear hK' hQ hK Q' Kn) | (intro hq9; refine ⟨hq9, ?_⟩; simp only [redB] at hq9; omega) | (intro hq9; refine ⟨hq9, fun hq8 => ?_⟩; rw [hq9, hq8]; rfl) | (simp; done) | omega | (simp only [redL]; omega) | (simp; omega) | (intros; (repeat' refine And.intro ?_ ?_) <;> (first | assumption | omega | (simp; done))))))
  refine AOp.call rfl (by simp only [go_sem]; rfl) (by simp [go_sem]) rfl (ACalls.mono (by simp only [go_sem]; exact b_Join G (evLinesV u ts h j (n6 % 3) ++ [[]]) [13, 10] (by omega) (by have := eventV_len u ts h j (n6 % 3) hu hts hh; unfold eventV at this; omega) _) ?_)
  rintro e st' ⟨rfl, rfl⟩
  (refine AOpsC_ok hK' _ _ _ ?_; (repeat simp (disch := omega) only [go_sem, redN, Nat.reduceAdd, Int.reduceToNat, Int.reducePow]); (repeat' refine And.intro ?_ ?_); (try any_goals (first | (refine hK _ _ ?_; clear hK' hQ hK Q' Kn) | (intro hq9; refine ⟨hq9, ?_⟩; simp only [redB] at hq9; omega) | (intro hq9; refine ⟨hq9, fun hq8 => ?_⟩; rw [hq9, hq8]; rfl) | (simp; done) | omega | (simp only [redL]; omega) | (simp; omega) | (intros; (repeat' refine And.intro ?_ ?_) <;> (first | assumption | omega | (simp; done))))))
  (repeat' (first | refine AW.seq ?_ | refine AW.scope ?_ | refine AW.label ?_ | refine AW.block ?_ | refine AW.skip ?_ | refine AW.exit ?_ | refine AW.ret ?_))
  (refine ⟨_, _, rfl, by simp, ?_⟩; simp only [aTup, AA.get, List.getD_cons_zero, List.getD_cons_succ, true_and])
  exact ⟨St.sub_refl _, rfl⟩
theorem t_EventN (G : Nat → AV) (s n1 n2 n3 n4 n5 n6 : Int)
    (q1 : 0 ≤ n1 ∧ n1 ≤ 18446744073709551615) (q2 : 0 ≤ n2 ∧ n2 ≤ 18446744073709551615) (q3 : 0 ≤ n3 ∧ n3 ≤ 18446744073709551615) (q4 : 0 ≤ n4 ∧ n4 ≤ 18446744073709551615) (q5 : 0 ≤ n5 ∧ n5 ≤ 18446744073709551615) (q6 : 0 ≤ n6 ∧ n6 ≤ 18446744073709551615)
    (d1 : ∀ σ : St, ACalls (Ev G) 15 [.int .u64 s] σ (fun e st' => st' = σ ∧ e = .ret (.agg (six n1 n2 n3 n4 n5 n6)))) (st : St) :
    ACalls (Ev G) 10 [.int .u64 s] st (fun e st' => st' = st ∧ e = .ret (.str (eventV (numT (n1 % 6)) (stampF (evTimeV n2 n3)) (numT (n4 % 5)) (n5 % 4) (n6 % 3)))) :=
  t_EventV G s n1 n2 n3 n4 n5 n6 _ _ _ q1 q2 q3 q4 q5 q6 (numT_len (by omega) (by omega)) (stampF_len35 _) (numT_len (by omega) (by omega)) d1
    (fun σ => t_num35 G (n1 % 6) (by omega) (by omega) σ) (fun σ => t_StampV G (evTimeV n2 n3) (by unfold evTimeV; omega) (by unfold evTimeV; omega) σ) (fun σ => t_num35 G (n4 % 5) (by omega) (by omega) σ) st
theorem t_Event (G : Nat → AV) (s : Int) (st : St) : ACalls (Ev G) 10 [.int .u64 s] st (fun e st' => st' = st ∧ e = .ret (.str (eventF s))) :=
  t_EventN G s _ _ _ _ _ _ (numF_bounds s 1) (numF_bounds s 2) (numF_bounds s 3) (numF_bounds s 4) (numF_bounds s 5) (numF_bounds s 6) (fun σ => t_first G s σ) st
end Go.Almanac

/- Scripts by a seed: the document's event. -/
namespace Go.Almanac
open Go.RowKit Go.Proofs Go.Abs

set_option linter.unusedSimpArgs false
set_option linter.unusedVariables false
set_option linter.unusedSectionVars false
set_option maxRecDepth 10000
set_option maxHeartbeats 1000000

/-- The lines so far, each with its end. -/
def lines35 (l : List (List UInt8)) (k : Nat) : List UInt8 := ((l.take k).map (· ++ [13, 10])).flatten
theorem lines35_step (l : List (List UInt8)) (k : Nat) (hk : k < l.length) : lines35 l (k + 1) = lines35 l k ++ (l.getD k [] ++ [13, 10]) := by
  unfold lines35
  rw [List.take_succ_eq_append_getElem hk, List.map_append, List.flatten_append]
  simp [List.getD, List.getElem?_eq_getElem hk]
theorem lines35_all (l : List (List UInt8)) : lines35 l l.length = (l.map (· ++ [13, 10])).flatten := by simp [lines35]
theorem lines35_le (l : List (List UInt8)) (k : Nat) : (lines35 l k).length ≤ ((l.map (· ++ [13, 10])).flatten).length := by
  unfold lines35
  conv => rhs; rw [← List.take_append_drop k l, List.map_append, List.flatten_append, List.length_append]
  omega
set_option maxHeartbeats 4000000 in
theorem r_EventV (G : Nat → AV) (s m1 m2 m3 m4 m5 m6 : Int) (u ts h : List UInt8)
    (q2 : 0 ≤ m2 ∧ m2 < 60) (q3 : 0 ≤ m3 ∧ m3 < 24) (q5 : 0 ≤ m5 ∧ m5 < 4) (q6 : 0 ≤ m6 ∧ m6 < 3)
    (hu : u.length ≤ 20) (hts : ts.length ≤ 15) (hh : h.length ≤ 20)
    (p1 : ∀ σ : St, ACalls (Ev G) 18 [.int .u64 s, .int .u64 1, .int .u64 6] σ (fun e st' => st' = σ ∧ e = .ret (.int .i64 m1)))
    (p2 : ∀ σ : St, ACalls (Ev G) 18 [.int .u64 s, .int .u64 2, .int .u64 60] σ (fun e st' => st' = σ ∧ e = .ret (.int .i64 m2)))
    (p3 : ∀ σ : St, ACalls (Ev G) 18 [.int .u64 s, .int .u64 3, .int .u64 24] σ (fun e st' => st' = σ ∧ e = .ret (.int .i64 m3)))
    (p4 : ∀ σ : St, ACalls (Ev G) 18 [.int .u64 s, .int .u64 4, .int .u64 5] σ (fun e st' => st' = σ ∧ e = .ret (.int .i64 m4)))
    (p5 : ∀ σ : St, ACalls (Ev G) 18 [.int .u64 s, .int .u64 5, .int .u64 4] σ (fun e st' => st' = σ ∧ e = .ret (.int .i64 m5)))
    (p6 : ∀ σ : St, ACalls (Ev G) 18 [.int .u64 s, .int .u64 6, .int .u64 3] σ (fun e st' => st' = σ ∧ e = .ret (.int .i64 m6)))
    (d4 : ∀ σ : St, ACalls (Ev G) 22 [.int .i64 m1] σ (fun e st' => st' = σ ∧ e = .ret (.str u)))
    (d5 : ∀ σ : St, ACalls (Ev G) 23 [.int .i64 (1735689600 + m2 * 86400 + m3 * 3600)] σ (fun e st' => st' = σ ∧ e = .ret (.str ts)))
    (d7 : ∀ σ : St, ACalls (Ev G) 22 [.int .i64 m4] σ (fun e st' => st' = σ ∧ e = .ret (.str h))) (st : St) :
    ACalls (Ev G) 11 [.int .u64 s] st (fun e st' => st' = st ∧ e = .ret (.str (eventV u ts h m5 m6))) := by
  refine ACalls.thaw (R' := fun e st' => st.sub st' ∧ e = .ret (.str (eventV u ts h m5 m6))) ?_ (fun x st1 h => ⟨2, st, h.1, rfl, by rw [h.2]; rfl⟩)
  refine ACalls.of_body Tryd.func11 rfl ?_
  rw [Tryd.ntmps11]
  simp only [List.length_cons, List.length_nil, Nat.reduceAdd, Nat.reduceSub, List.replicate_succ, List.replicate_zero, List.cons_append, List.nil_append]
  (repeat' (first | refine AW.seq ?_ | refine AW.scope ?_ | refine AW.label ?_ | refine AW.block ?_ | refine AW.skip ?_ | refine AW.exit ?_ | refine AW.ret ?_))
  (refine AW.regionC fun Q' Kn hQ hK hK' => ?_; (repeat simp (disch := omega) only [go_sem, redN, Nat.reduceAdd, Int.reduceToNat, Int.reducePow]); (repeat' refine And.intro ?_ ?_); (try any_goals (first | (refine hK _ _ ?_; clear hK' hQ hK Q' Kn) | (intro hq9; refine ⟨hq9, ?_⟩; simp only [redB] at hq9; omega) | (intro hq9; refine ⟨hq9, fun hq8 => ?_⟩; rw [hq9, hq8]; rfl) | (simp; done) | omega | (simp only [redL]; omega) | (simp; omega) | (intros; (repeat' refine And.intro ?_ ?_) <;> (first | assumption | omega | (simp; done))))))
  (repeat' (first | refine AW.seq ?_ | refine AW.scope ?_ | refine AW.label ?_ | refine AW.block ?_ | refine AW.skip ?_ | refine AW.exit ?_ | refine AW.ret ?_))
  (refine AW.regionC fun Q' Kn hQ hK hK' => ?_; (repeat simp (disch := omega) only [go_sem, redN, Nat.reduceAdd, Int.reduceToNat, Int.reducePow]); (repeat' refine And.intro ?_ ?_); (try any_goals (first | (refine hK _ _ ?_; clear hK' hQ hK Q' Kn) | (intro hq9; refine ⟨hq9, ?_⟩; simp only [redB] at hq9; omega) | (intro hq9; refine ⟨hq9, fun hq8 => ?_⟩; rw [hq9, hq8]; rfl) | (simp; done) | omega | (simp only [redL]; omega) | (simp; omega) | (intros; (repeat' refine And.intro ?_ ?_) <;> (first | assumption | omega | (simp; done))))))
  refine AOp.call rfl (by simp only [go_sem]; rfl) (by simp [go_sem]) rfl (ACalls.mono (by simp only [go_sem]; exact p2 _) ?_)
  rintro e st' ⟨rfl, rfl⟩
  (refine AOpsC_ok hK' _ _ _ ?_; (repeat simp (disch := omega) only [go_sem, redN, Nat.reduceAdd, Int.reduceToNat, Int.reducePow]); (repeat' refine And.intro ?_ ?_); (try any_goals (first | (refine hK _ _ ?_; clear hK' hQ hK Q' Kn) | (intro hq9; refine ⟨hq9, ?_⟩; simp only [redB] at hq9; omega) | (intro hq9; refine ⟨hq9, fun hq8 => ?_⟩; rw [hq9, hq8]; rfl) | (simp; done) | omega | (simp only [redL]; omega) | (simp; omega) | (intros; (repeat' refine And.intro ?_ ?_) <;> (first | assumption | omega | (simp; done))))))
  refine AOp.call rfl (by simp only [go_sem]; rfl) (by simp [go_sem]) rfl (ACalls.mono (by simp only [go_sem]; exact p3 _) ?_)
  rintro e st' ⟨rfl, rfl⟩
  (refine AOpsC_ok hK' _ _ _ ?_; (repeat simp (disch := omega) only [go_sem, redN, Nat.reduceAdd, Int.reduceToNat, Int.reducePow]); (repeat' refine And.intro ?_ ?_); (try any_goals (first | (refine hK _ _ ?_; clear hK' hQ hK Q' Kn) | (intro hq9; refine ⟨hq9, ?_⟩; simp only [redB] at hq9; omega) | (intro hq9; refine ⟨hq9, fun hq8 => ?_⟩; rw [hq9, hq8]; rfl) | (simp; done) | omega | (simp only [redL]; omega) | (simp; omega) | (intros; (repeat' refine And.intro ?_ ?_) <;> (first | assumption | omega | (simp; done))))))
  (repeat' (first | refine AW.seq ?_ | refine AW.scope ?_ | refine AW.label ?_ | refine AW.block ?_ | refine AW.skip ?_ | refine AW.exit ?_ | refine AW.ret ?_))
  (refine AW.regionC fun Q' Kn hQ hK hK' => ?_; (repeat simp (disch := omega) only [go_sem, redN, Nat.reduceAdd, Int.reduceToNat, Int.reducePow]); (repeat' refine And.intro ?_ ?_); (try any_goals (first | (refine hK _ _ ?_; clear hK' hQ hK Q' Kn) | (intro hq9; refine ⟨hq9, ?_⟩; simp only [redB] at hq9; omega) | (intro hq9; refine ⟨hq9, fun hq8 => ?_⟩; rw [hq9, hq8]; rfl) | (simp; done) | omega | (simp only [redL]; omega) | (simp; omega) | (intros; (repeat' refine And.intro ?_ ?_) <;> (first | assumption | omega | (simp; done))))))
  refine AOp.call rfl (by simp only [go_sem]; rfl) (by simp [go_sem]) rfl (ACalls.mono (by simp only [go_sem]; exact p1 _) ?_)
  rintro e st' ⟨rfl, rfl⟩
  (refine AOpsC_ok hK' _ _ _ ?_; (repeat simp (disch := omega) only [go_sem, redN, Nat.reduceAdd, Int.reduceToNat, Int.reducePow]); (repeat' refine And.intro ?_ ?_); (try any_goals (first | (refine hK _ _ ?_; clear hK' hQ hK Q' Kn) | (intro hq9; refine ⟨hq9, ?_⟩; simp only [redB] at hq9; omega) | (intro hq9; refine ⟨hq9, fun hq8 => ?_⟩; rw [hq9, hq8]; rfl) | (simp; done) | omega | (simp only [redL]; omega) | (simp; omega) | (intros; (repeat' refine And.intro ?_ ?_) <;> (first | assumption | omega | (simp; done))))))
  refine AOp.call rfl (by simp only [go_sem]; rfl) (by simp [go_sem]) rfl (ACalls.mono (by simp only [go_sem]; exact d4 _) ?_)
  rintro e st' ⟨rfl, rfl⟩
  (refine AOpsC_ok hK' _ _ _ ?_; (repeat simp (disch := omega) only [go_sem, redN, Nat.reduceAdd, Int.reduceToNat, Int.reducePow]); (repeat' refine And.intro ?_ ?_); (try any_goals (first | (refine hK _ _ ?_; clear hK' hQ hK Q' Kn) | (intro hq9; refine ⟨hq9, ?_⟩; simp only [redB] at hq9; omega) | (intro hq9; refine ⟨hq9, fun hq8 => ?_⟩; rw [hq9, hq8]; rfl) | (simp; done) | omega | (simp only [redL]; omega) | (simp; omega) | (intros; (repeat' refine And.intro ?_ ?_) <;> (first | assumption | omega | (simp; done))))))
  refine AOp.call rfl (by simp only [go_sem]; rfl) (by simp [go_sem]) rfl (ACalls.mono (by simp only [go_sem]; exact d5 _) ?_)
  rintro e st' ⟨rfl, rfl⟩
  (refine AOpsC_ok hK' _ _ _ ?_; (repeat simp (disch := omega) only [go_sem, redN, Nat.reduceAdd, Int.reduceToNat, Int.reducePow]); (repeat' refine And.intro ?_ ?_); (try any_goals (first | (refine hK _ _ ?_; clear hK' hQ hK Q' Kn) | (intro hq9; refine ⟨hq9, ?_⟩; simp only [redB] at hq9; omega) | (intro hq9; refine ⟨hq9, fun hq8 => ?_⟩; rw [hq9, hq8]; rfl) | (simp; done) | omega | (simp only [redL]; omega) | (simp; omega) | (intros; (repeat' refine And.intro ?_ ?_) <;> (first | assumption | omega | (simp; done))))))
  refine AOp.call rfl (by simp only [go_sem]; rfl) (by simp [go_sem]) rfl (ACalls.mono (by simp only [go_sem]; exact p4 _) ?_)
  rintro e st' ⟨rfl, rfl⟩
  (refine AOpsC_ok hK' _ _ _ ?_; (repeat simp (disch := omega) only [go_sem, redN, Nat.reduceAdd, Int.reduceToNat, Int.reducePow]); (repeat' refine And.intro ?_ ?_); (try any_goals (first | (refine hK _ _ ?_; clear hK' hQ hK Q' Kn) | (intro hq9; refine ⟨hq9, ?_⟩; simp only [redB] at hq9; omega) | (intro hq9; refine ⟨hq9, fun hq8 => ?_⟩; rw [hq9, hq8]; rfl) | (simp; done) | omega | (simp only [redL]; omega) | (simp; omega) | (intros; (repeat' refine And.intro ?_ ?_) <;> (first | assumption | omega | (simp; done))))))
  refine AOp.call rfl (by simp only [go_sem]; rfl) (by simp [go_sem]) rfl (ACalls.mono (by simp only [go_sem]; exact d7 _) ?_)
  rintro e st' ⟨rfl, rfl⟩
  (refine AOpsC_ok hK' _ _ _ ?_; (repeat simp (disch := omega) only [go_sem, redN, Nat.reduceAdd, Int.reduceToNat, Int.reducePow]); (repeat' refine And.intro ?_ ?_); (try any_goals (first | (refine hK _ _ ?_; clear hK' hQ hK Q' Kn) | (intro hq9; refine ⟨hq9, ?_⟩; simp only [redB] at hq9; omega) | (intro hq9; refine ⟨hq9, fun hq8 => ?_⟩; rw [hq9, hq8]; rfl) | (simp; done) | omega | (simp only [redL]; omega) | (simp; omega) | (intros; (repeat' refine And.intro ?_ ?_) <;> (first | assumption | omega | (simp; done))))))
  refine AOp.buildSlice (e := 9) (sz := 1) (es := strsE (evHeadV u ts h)) rfl rfl rfl rfl (by simp [partsC, go_sem]) (by simp [aParts, go_sem, strsE, evHeadV]) (by simp [strsE, evHeadV]) rfl (by decide) (by decide) fun it hit => ?_
  (refine AOpsC_ok hK' _ _ _ ?_; (repeat simp (disch := omega) only [go_sem, redN, Nat.reduceAdd, Int.reduceToNat, Int.reducePow]); (repeat' refine And.intro ?_ ?_); (try any_goals (first | (refine hK _ _ ?_; clear hK' hQ hK Q' Kn) | (intro hq9; refine ⟨hq9, ?_⟩; simp only [redB] at hq9; omega) | (intro hq9; refine ⟨hq9, fun hq8 => ?_⟩; rw [hq9, hq8]; rfl) | (simp; done) | omega | (simp only [redL]; omega) | (simp; omega) | (intros; (repeat' refine And.intro ?_ ?_) <;> (first | assumption | omega | (simp; done))))))
  have h1 : SW st' 9 1 (.arr it 0 1 0 7) (st'.set it (.cells 9 0 1 (strsE (evHeadV u ts h)))) (strsE (evHeadV u ts h)) := ⟨.inr ⟨it, 0, rfl, St.set_same _ _ _, hit⟩, fun i hi => St.set_ne _ _ (fun e => hi (by rw [e]; exact hit))⟩
  generalize St.set st' it _ = σ1 at h1 ⊢
  have hf := freqS_len m5
  have l1 : (evHeadV u ts h).length = 7 := rfl
  have l2 : (ruleS m5).length ≤ 1 := by unfold ruleS; split <;> simp
  have l3 : (withS m6).length ≤ 2 := by unfold withS; split <;> simp
  (repeat' (first | refine AW.seq ?_ | refine AW.scope ?_ | refine AW.label ?_ | refine AW.block ?_ | refine AW.skip ?_ | refine AW.exit ?_ | refine AW.ret ?_))
  (refine AW.regionC fun Q' Kn hQ hK hK' => ?_; (repeat simp (disch := omega) only [go_sem, redN, Nat.reduceAdd, Int.reduceToNat, Int.reducePow]); (repeat' refine And.intro ?_ ?_); (try any_goals (first | (refine hK _ _ ?_; clear hK' hQ hK Q' Kn) | (intro hq9; refine ⟨hq9, ?_⟩; simp only [redB] at hq9; omega) | (intro hq9; refine ⟨hq9, fun hq8 => ?_⟩; rw [hq9, hq8]; rfl) | (simp; done) | omega | (simp only [redL]; omega) | (simp; omega) | (intros; (repeat' refine And.intro ?_ ?_) <;> (first | assumption | omega | (simp; done))))))
  refine AOp.call rfl (by simp only [go_sem]; rfl) (by simp [go_sem]) rfl (ACalls.mono (by simp only [go_sem]; exact p5 _) ?_)
  rintro e σ7 ⟨h7, rfl⟩; subst σ7
  (refine AOpsC_ok hK' _ _ _ ?_; (repeat simp (disch := omega) only [go_sem, redN, Nat.reduceAdd, Int.reduceToNat, Int.reducePow]); (repeat' refine And.intro ?_ ?_); (try any_goals (first | (refine hK _ _ ?_; clear hK' hQ hK Q' Kn) | (intro hq9; refine ⟨hq9, ?_⟩; simp only [redB] at hq9; omega) | (intro hq9; refine ⟨hq9, fun hq8 => ?_⟩; rw [hq9, hq8]; rfl) | (simp; done) | omega | (simp only [redL]; omega) | (simp; omega) | (intros; (repeat' refine And.intro ?_ ?_) <;> (first | assumption | omega | (simp; done))))))
  refine AW.cutE (fun x : AV × St => [.int .u64 s, .junk, .junk, .junk, x.1, .junk, .junk, .junk, .junk, .junk, .junk, .junk, .junk, .junk, .junk, .junk, .junk, .junk, .junk, .junk, .junk, .junk, .junk, .junk, .junk, .junk, .junk, .junk, .junk, .junk, .junk, .junk, .junk, .junk, .junk, .junk, .junk, .junk, .junk, .junk, .junk, .junk, .junk, .junk, .junk, .junk, .junk, .junk, .junk, .junk, .junk, .junk, .junk, .junk, .junk, .junk, .junk, .junk, .junk, .junk, .junk, .junk, .junk, .junk]) (fun x => x.2) (fun x => SW st' 9 1 x.1 x.2 (strsE (evHeadV u ts h ++ ruleS m5))) ?_ ?_
  · (repeat' (first | refine AW.seq ?_ | refine AW.scope ?_ | refine AW.label ?_ | refine AW.block ?_ | refine AW.skip ?_ | refine AW.exit ?_ | refine AW.ret ?_))
    (refine AW.regionC fun Q' Kn hQ hK hK' => ?_; (repeat simp (disch := omega) only [go_sem, redN, Nat.reduceAdd, Int.reduceToNat, Int.reducePow]); (repeat' refine And.intro ?_ ?_); (try any_goals (first | (refine hK _ _ ?_; clear hK' hQ hK Q' Kn) | (intro hq9; refine ⟨hq9, ?_⟩; simp only [redB] at hq9; omega) | (intro hq9; refine ⟨hq9, fun hq8 => ?_⟩; rw [hq9, hq8]; rfl) | (simp; done) | omega | (simp only [redL]; omega) | (simp; omega) | (intros; (repeat' refine And.intro ?_ ?_) <;> (first | assumption | omega | (simp; done))))))
    (repeat' (first | refine AW.seq ?_ | refine AW.scope ?_ | refine AW.label ?_ | refine AW.block ?_ | refine AW.skip ?_ | refine AW.exit ?_ | refine AW.ret ?_))
    (refine AW.cond (by simp (disch := omega) only [go_sem, redN, Nat.reduceAdd, Int.reduceToNat, Int.reducePow]; rfl) (fun hb => ?_) (fun hb => ?_) <;> (try simp only [redB] at hb))
    · (repeat' (first | refine AW.seq ?_ | refine AW.scope ?_ | refine AW.label ?_ | refine AW.block ?_ | refine AW.skip ?_ | refine AW.exit ?_ | refine AW.ret ?_))
      (refine AW.regionC fun Q' Kn hQ hK hK' => ?_; (repeat simp (disch := omega) only [go_sem, redN, Nat.reduceAdd, Int.reduceToNat, Int.reducePow]); (repeat' refine And.intro ?_ ?_); (try any_goals (first | (refine hK _ _ ?_; clear hK' hQ hK Q' Kn) | (intro hq9; refine ⟨hq9, ?_⟩; simp only [redB] at hq9; omega) | (intro hq9; refine ⟨hq9, fun hq8 => ?_⟩; rw [hq9, hq8]; rfl) | (simp; done) | omega | (simp only [redL]; omega) | (simp; omega) | (intros; (repeat' refine And.intro ?_ ?_) <;> (first | assumption | omega | (simp; done))))))
      refine AOp.buildSlice (e := 9) (sz := 1) (es := strsE [ruleT m5]) rfl rfl rfl rfl (by simp [partsC, go_sem]) (by simp [aParts, go_sem, strsE, ruleT, hb, freqS]) (by simp [strsE]) rfl (by decide) (by decide) fun it2 hit2 => ?_
      (refine AOpsC_ok hK' _ _ _ ?_; (repeat simp (disch := omega) only [go_sem, redN, Nat.reduceAdd, Int.reduceToNat, Int.reducePow]); (repeat' refine And.intro ?_ ?_); (try any_goals (first | (refine hK _ _ ?_; clear hK' hQ hK Q' Kn) | (intro hq9; refine ⟨hq9, ?_⟩; simp only [redB] at hq9; omega) | (intro hq9; refine ⟨hq9, fun hq8 => ?_⟩; rw [hq9, hq8]; rfl) | (simp; done) | omega | (simp only [redL]; omega) | (simp; omega) | (intros; (repeat' refine And.intro ?_ ?_) <;> (first | assumption | omega | (simp; done))))))
      refine AOp.appendE (e := 9) (sz := 1) (by_ := 16) (es := strsE (evHeadV u ts h)) (xs := strsE [ruleT m5]) rfl rfl rfl rfl rfl rfl rfl (by decide) h1 hit2 rfl (by simp [isCell, strsE]) (by simp only [strsE_length, List.length_cons, List.length_nil]; omega) (by simp only [strsE_length, maxLen, List.length_cons, List.length_nil]; omega) (by simp [strsE]) fun v' σ' h9 => ?_
      (refine AOpsC_ok hK' _ _ _ ?_; (repeat simp (disch := omega) only [go_sem, redN, Nat.reduceAdd, Int.reduceToNat, Int.reducePow]); (repeat' refine And.intro ?_ ?_); (try any_goals (first | (refine hK _ _ ?_; clear hK' hQ hK Q' Kn) | (intro hq9; refine ⟨hq9, ?_⟩; simp only [redB] at hq9; omega) | (intro hq9; refine ⟨hq9, fun hq8 => ?_⟩; rw [hq9, hq8]; rfl) | (simp; done) | omega | (simp only [redL]; omega) | (simp; omega) | (intros; (repeat' refine And.intro ?_ ?_) <;> (first | assumption | omega | (simp; done))))))
      rw [← strsE_append] at h9
      (repeat' (first | refine AW.seq ?_ | refine AW.scope ?_ | refine AW.label ?_ | refine AW.block ?_ | refine AW.skip ?_ | refine AW.exit ?_ | refine AW.ret ?_ | (refine AW.regionC fun Q' Kn hQ hK hK' => ?_; (repeat simp (disch := omega) only [go_sem, redN, Nat.reduceAdd, Int.reduceToNat, Int.reducePow]); (repeat' refine And.intro ?_ ?_); (try any_goals (first | (refine hK _ _ ?_; clear hK' hQ hK Q' Kn) | (intro hq9; refine ⟨hq9, ?_⟩; simp only [redB] at hq9; omega) | (intro hq9; refine ⟨hq9, fun hq8 => ?_⟩; rw [hq9, hq8]; rfl) | (simp; done) | omega | (simp only [redL]; omega) | (simp; omega) | (intros; (repeat' refine And.intro ?_ ?_) <;> (first | assumption | omega | (simp; done)))))) | (refine AW.cond (by simp (disch := omega) only [go_sem, redN, Nat.reduceAdd, Int.reduceToNat, Int.reducePow]; rfl) (fun hb => ?_) (fun hb => ?_) <;> (try simp only [redB] at hb))))
      have hr : ruleS m5 = [ruleT m5] := by rw [ruleS, if_neg (by rw [hb]; decide)]
      refine ⟨(v', σ'), by rw [hr]; exact h9, ?_, rfl, rfl⟩
      (repeat (first | exact Weak.nil | refine Weak.junk _ ?_ | refine Weak.same _ ?_ | refine Weak.eqv (by (congr 1; first | omega | (simp; done) | exact w_i64 (by omega) (by omega))) ?_))
    · (repeat' (first | refine AW.seq ?_ | refine AW.scope ?_ | refine AW.label ?_ | refine AW.block ?_ | refine AW.skip ?_ | refine AW.exit ?_ | refine AW.ret ?_))
      (refine AW.regionC fun Q' Kn hQ hK hK' => ?_; (repeat simp (disch := omega) only [go_sem, redN, Nat.reduceAdd, Int.reduceToNat, Int.reducePow]); (repeat' refine And.intro ?_ ?_); (try any_goals (first | (refine hK _ _ ?_; clear hK' hQ hK Q' Kn) | (intro hq9; refine ⟨hq9, ?_⟩; simp only [redB] at hq9; omega) | (intro hq9; refine ⟨hq9, fun hq8 => ?_⟩; rw [hq9, hq8]; rfl) | (simp; done) | omega | (simp only [redL]; omega) | (simp; omega) | (intros; (repeat' refine And.intro ?_ ?_) <;> (first | assumption | omega | (simp; done))))))
      (repeat' (first | refine AW.seq ?_ | refine AW.scope ?_ | refine AW.label ?_ | refine AW.block ?_ | refine AW.skip ?_ | refine AW.exit ?_ | refine AW.ret ?_))
      (refine AW.cond (by simp (disch := omega) only [go_sem, redN, Nat.reduceAdd, Int.reduceToNat, Int.reducePow]; rfl) (fun hb => ?_) (fun hb => ?_) <;> (try simp only [redB] at hb))
      · (repeat' (first | refine AW.seq ?_ | refine AW.scope ?_ | refine AW.label ?_ | refine AW.block ?_ | refine AW.skip ?_ | refine AW.exit ?_ | refine AW.ret ?_))
        (refine AW.regionC fun Q' Kn hQ hK hK' => ?_; (repeat simp (disch := omega) only [go_sem, redN, Nat.reduceAdd, Int.reduceToNat, Int.reducePow]); (repeat' refine And.intro ?_ ?_); (try any_goals (first | (refine hK _ _ ?_; clear hK' hQ hK Q' Kn) | (intro hq9; refine ⟨hq9, ?_⟩; simp only [redB] at hq9; omega) | (intro hq9; refine ⟨hq9, fun hq8 => ?_⟩; rw [hq9, hq8]; rfl) | (simp; done) | omega | (simp only [redL]; omega) | (simp; omega) | (intros; (repeat' refine And.intro ?_ ?_) <;> (first | assumption | omega | (simp; done))))))
        refine AOp.buildSlice (e := 9) (sz := 1) (es := strsE [ruleT m5]) rfl rfl rfl rfl (by simp [partsC, go_sem]) (by simp [aParts, go_sem, strsE, ruleT, hb, freqS]) (by simp [strsE]) rfl (by decide) (by decide) fun it2 hit2 => ?_
        (refine AOpsC_ok hK' _ _ _ ?_; (repeat simp (disch := omega) only [go_sem, redN, Nat.reduceAdd, Int.reduceToNat, Int.reducePow]); (repeat' refine And.intro ?_ ?_); (try any_goals (first | (refine hK _ _ ?_; clear hK' hQ hK Q' Kn) | (intro hq9; refine ⟨hq9, ?_⟩; simp only [redB] at hq9; omega) | (intro hq9; refine ⟨hq9, fun hq8 => ?_⟩; rw [hq9, hq8]; rfl) | (simp; done) | omega | (simp only [redL]; omega) | (simp; omega) | (intros; (repeat' refine And.intro ?_ ?_) <;> (first | assumption | omega | (simp; done))))))
        refine AOp.appendE (e := 9) (sz := 1) (by_ := 16) (es := strsE (evHeadV u ts h)) (xs := strsE [ruleT m5]) rfl rfl rfl rfl rfl rfl rfl (by decide) h1 hit2 rfl (by simp [isCell, strsE]) (by simp only [strsE_length, List.length_cons, List.length_nil]; omega) (by simp only [strsE_length, maxLen, List.length_cons, List.length_nil]; omega) (by simp [strsE]) fun v' σ' h9 => ?_
        (refine AOpsC_ok hK' _ _ _ ?_; (repeat simp (disch := omega) only [go_sem, redN, Nat.reduceAdd, Int.reduceToNat, Int.reducePow]); (repeat' refine And.intro ?_ ?_); (try any_goals (first | (refine hK _ _ ?_; clear hK' hQ hK Q' Kn) | (intro hq9; refine ⟨hq9, ?_⟩; simp only [redB] at hq9; omega) | (intro hq9; refine ⟨hq9, fun hq8 => ?_⟩; rw [hq9, hq8]; rfl) | (simp; done) | omega | (simp only [redL]; omega) | (simp; omega) | (intros; (repeat' refine And.intro ?_ ?_) <;> (first | assumption | omega | (simp; done))))))
        rw [← strsE_append] at h9
        (repeat' (first | refine AW.seq ?_ | refine AW.scope ?_ | refine AW.label ?_ | refine AW.block ?_ | refine AW.skip ?_ | refine AW.exit ?_ | refine AW.ret ?_ | (refine AW.regionC fun Q' Kn hQ hK hK' => ?_; (repeat simp (disch := omega) only [go_sem, redN, Nat.reduceAdd, Int.reduceToNat, Int.reducePow]); (repeat' refine And.intro ?_ ?_); (try any_goals (first | (refine hK _ _ ?_; clear hK' hQ hK Q' Kn) | (intro hq9; refine ⟨hq9, ?_⟩; simp only [redB] at hq9; omega) | (intro hq9; refine ⟨hq9, fun hq8 => ?_⟩; rw [hq9, hq8]; rfl) | (simp; done) | omega | (simp only [redL]; omega) | (simp; omega) | (intros; (repeat' refine And.intro ?_ ?_) <;> (first | assumption | omega | (simp; done)))))) | (refine AW.cond (by simp (disch := omega) only [go_sem, redN, Nat.reduceAdd, Int.reduceToNat, Int.reducePow]; rfl) (fun hb => ?_) (fun hb => ?_) <;> (try simp only [redB] at hb))))
        have hr : ruleS m5 = [ruleT m5] := by rw [ruleS, if_neg (by rw [hb]; decide)]
        refine ⟨(v', σ'), by rw [hr]; exact h9, ?_, rfl, rfl⟩
        (repeat (first | exact Weak.nil | refine Weak.junk _ ?_ | refine Weak.same _ ?_ | refine Weak.eqv (by (congr 1; first | omega | (simp; done) | exact w_i64 (by omega) (by omega))) ?_))
      · (repeat' (first | refine AW.seq ?_ | refine AW.scope ?_ | refine AW.label ?_ | refine AW.block ?_ | refine AW.skip ?_ | refine AW.exit ?_ | refine AW.ret ?_))
        have hr : ruleS m5 = [] := by rw [ruleS, if_pos (by unfold freqS; rw [if_neg (by omega), if_neg (by omega)])]
        refine ⟨(_, _), by rw [hr, List.append_nil]; exact h1, ?_, rfl, rfl⟩
        (repeat (first | exact Weak.nil | refine Weak.junk _ ?_ | refine Weak.same _ ?_ | refine Weak.eqv (by (congr 1; first | omega | (simp; done) | exact w_i64 (by omega) (by omega))) ?_))
  clear h1
  rintro ⟨v, σ⟩ h1
  dsimp only at h1 ⊢
  rcases h1.own with ⟨rfl, hz⟩ | ⟨i1, g1, rfl, _⟩
  · exact absurd hz (by simp [strsE, evHeadV])
  simp only [strsE_length] at h1
  have l4 : (evHeadV u ts h ++ ruleS m5).length ≤ 8 := by rw [List.length_append]; omega
  (repeat' (first | refine AW.seq ?_ | refine AW.scope ?_ | refine AW.label ?_ | refine AW.block ?_ | refine AW.skip ?_ | refine AW.exit ?_ | refine AW.ret ?_))
  (refine AW.regionC fun Q' Kn hQ hK hK' => ?_; (repeat simp (disch := omega) only [go_sem, redN, Nat.reduceAdd, Int.reduceToNat, Int.reducePow]); (repeat' refine And.intro ?_ ?_); (try any_goals (first | (refine hK _ _ ?_; clear hK' hQ hK Q' Kn) | (intro hq9; refine ⟨hq9, ?_⟩; simp only [redB] at hq9; omega) | (intro hq9; refine ⟨hq9, fun hq8 => ?_⟩; rw [hq9, hq8]; rfl) | (simp; done) | omega | (simp only [redL]; omega) | (simp; omega) | (intros; (repeat' refine And.intro ?_ ?_) <;> (first | assumption | omega | (simp; done))))))
  refine AOp.call rfl (by simp only [go_sem]; rfl) (by simp [go_sem]) rfl (ACalls.mono (by simp only [go_sem]; exact p6 _) ?_)
  rintro e σ7 ⟨h7, rfl⟩; subst σ7
  (refine AOpsC_ok hK' _ _ _ ?_; (repeat simp (disch := omega) only [go_sem, redN, Nat.reduceAdd, Int.reduceToNat, Int.reducePow]); (repeat' refine And.intro ?_ ?_); (try any_goals (first | (refine hK _ _ ?_; clear hK' hQ hK Q' Kn) | (intro hq9; refine ⟨hq9, ?_⟩; simp only [redB] at hq9; omega) | (intro hq9; refine ⟨hq9, fun hq8 => ?_⟩; rw [hq9, hq8]; rfl) | (simp; done) | omega | (simp only [redL]; omega) | (simp; omega) | (intros; (repeat' refine And.intro ?_ ?_) <;> (first | assumption | omega | (simp; done))))))
  (repeat' (first | refine AW.seq ?_ | refine AW.scope ?_ | refine AW.label ?_ | refine AW.block ?_ | refine AW.skip ?_ | refine AW.exit ?_ | refine AW.ret ?_))
  refine AW.cutE (fun x : AV × St => [.int .u64 s, .junk, .junk, .junk, x.1, .junk, .junk, .junk, .junk, .junk, .junk, .junk, .junk, .junk, .junk, .junk, .junk, .junk, .junk, .junk, .junk, .junk, .junk, .junk, .junk, .junk, .junk, .junk, .junk, .junk, .junk, .junk, .junk, .junk, .junk, .junk, .junk, .junk, .junk, .junk, .junk, .junk, .junk, .junk, .junk, .junk, .junk, .junk, .junk, .junk, .junk, .junk, .junk, .junk, .junk, .junk, .junk, .junk, .junk, .junk, .junk, .junk, .junk, .junk]) (fun x => x.2) (fun x => SW st' 9 1 x.1 x.2 (strsE (evHeadV u ts h ++ ruleS m5 ++ withS m6))) ?_ ?_
  · (refine AW.cond (by simp (disch := omega) only [go_sem, redN, Nat.reduceAdd, Int.reduceToNat, Int.reducePow]; rfl) (fun hb => ?_) (fun hb => ?_) <;> (try simp only [redB] at hb))
    · (repeat' (first | refine AW.seq ?_ | refine AW.scope ?_ | refine AW.label ?_ | refine AW.block ?_ | refine AW.skip ?_ | refine AW.exit ?_ | refine AW.ret ?_))
      (refine AW.regionC fun Q' Kn hQ hK hK' => ?_; (repeat simp (disch := omega) only [go_sem, redN, Nat.reduceAdd, Int.reduceToNat, Int.reducePow]); (repeat' refine And.intro ?_ ?_); (try any_goals (first | (refine hK _ _ ?_; clear hK' hQ hK Q' Kn) | (intro hq9; refine ⟨hq9, ?_⟩; simp only [redB] at hq9; omega) | (intro hq9; refine ⟨hq9, fun hq8 => ?_⟩; rw [hq9, hq8]; rfl) | (simp; done) | omega | (simp only [redL]; omega) | (simp; omega) | (intros; (repeat' refine And.intro ?_ ?_) <;> (first | assumption | omega | (simp; done))))))
      refine AOp.buildSlice (e := 9) (sz := 1) (es := strsE [[79, 82, 71, 65, 78, 73, 90, 69, 82, 58, 109, 97, 105, 108, 116, 111, 58, 97, 64, 97, 108, 109, 97, 110, 97, 99], [65, 84, 84, 69, 78, 68, 69, 69, 58, 109, 97, 105, 108, 116, 111, 58, 98, 64, 97, 108, 109, 97, 110, 97, 99]]) rfl rfl rfl rfl (by simp [partsC, go_sem]) (by simp [aParts, go_sem, strsE]) (by simp [strsE]) rfl (by decide) (by decide) fun it2 hit2 => ?_
      (refine AOpsC_ok hK' _ _ _ ?_; (repeat simp (disch := omega) only [go_sem, redN, Nat.reduceAdd, Int.reduceToNat, Int.reducePow]); (repeat' refine And.intro ?_ ?_); (try any_goals (first | (refine hK _ _ ?_; clear hK' hQ hK Q' Kn) | (intro hq9; refine ⟨hq9, ?_⟩; simp only [redB] at hq9; omega) | (intro hq9; refine ⟨hq9, fun hq8 => ?_⟩; rw [hq9, hq8]; rfl) | (simp; done) | omega | (simp only [redL]; omega) | (simp; omega) | (intros; (repeat' refine And.intro ?_ ?_) <;> (first | assumption | omega | (simp; done))))))
      refine AOp.appendE (e := 9) (sz := 1) (by_ := 16) (es := strsE (evHeadV u ts h ++ ruleS m5)) (xs := strsE [[79, 82, 71, 65, 78, 73, 90, 69, 82, 58, 109, 97, 105, 108, 116, 111, 58, 97, 64, 97, 108, 109, 97, 110, 97, 99], [65, 84, 84, 69, 78, 68, 69, 69, 58, 109, 97, 105, 108, 116, 111, 58, 98, 64, 97, 108, 109, 97, 110, 97, 99]]) rfl rfl rfl rfl rfl rfl rfl (by decide) h1 hit2 rfl (by simp [isCell, strsE]) (by simp only [strsE_length, List.length_cons, List.length_nil]; omega) (by simp only [strsE_length, maxLen, List.length_cons, List.length_nil]; omega) (by simp [strsE]) fun v' σ' h9 => ?_
      (refine AOpsC_ok hK' _ _ _ ?_; (repeat simp (disch := omega) only [go_sem, redN, Nat.reduceAdd, Int.reduceToNat, Int.reducePow]); (repeat' refine And.intro ?_ ?_); (try any_goals (first | (refine hK _ _ ?_; clear hK' hQ hK Q' Kn) | (intro hq9; refine ⟨hq9, ?_⟩; simp only [redB] at hq9; omega) | (intro hq9; refine ⟨hq9, fun hq8 => ?_⟩; rw [hq9, hq8]; rfl) | (simp; done) | omega | (simp only [redL]; omega) | (simp; omega) | (intros; (repeat' refine And.intro ?_ ?_) <;> (first | assumption | omega | (simp; done))))))
      rw [← strsE_append] at h9
      (repeat' (first | refine AW.seq ?_ | refine AW.scope ?_ | refine AW.label ?_ | refine AW.block ?_ | refine AW.skip ?_ | refine AW.exit ?_ | refine AW.ret ?_ | (refine AW.regionC fun Q' Kn hQ hK hK' => ?_; (repeat simp (disch := omega) only [go_sem, redN, Nat.reduceAdd, Int.reduceToNat, Int.reducePow]); (repeat' refine And.intro ?_ ?_); (try any_goals (first | (refine hK _ _ ?_; clear hK' hQ hK Q' Kn) | (intro hq9; refine ⟨hq9, ?_⟩; simp only [redB] at hq9; omega) | (intro hq9; refine ⟨hq9, fun hq8 => ?_⟩; rw [hq9, hq8]; rfl) | (simp; done) | omega | (simp only [redL]; omega) | (simp; omega) | (intros; (repeat' refine And.intro ?_ ?_) <;> (first | assumption | omega | (simp; done)))))) | (refine AW.cond (by simp (disch := omega) only [go_sem, redN, Nat.reduceAdd, Int.reduceToNat, Int.reducePow]; rfl) (fun hb => ?_) (fun hb => ?_) <;> (try simp only [redB] at hb))))
      have hr : withS m6 = [[79, 82, 71, 65, 78, 73, 90, 69, 82, 58, 109, 97, 105, 108, 116, 111, 58, 97, 64, 97, 108, 109, 97, 110, 97, 99], [65, 84, 84, 69, 78, 68, 69, 69, 58, 109, 97, 105, 108, 116, 111, 58, 98, 64, 97, 108, 109, 97, 110, 97, 99]] := by rw [withS, if_pos hb]
      refine ⟨(v', σ'), by rw [hr]; exact h9, ?_, rfl, rfl⟩
      (repeat (first | exact Weak.nil | refine Weak.junk _ ?_ | refine Weak.same _ ?_ | refine Weak.eqv (by (congr 1; first | omega | (simp; done) | exact w_i64 (by omega) (by omega))) ?_))
    · (repeat' (first | refine AW.seq ?_ | refine AW.scope ?_ | refine AW.label ?_ | refine AW.block ?_ | refine AW.skip ?_ | refine AW.exit ?_ | refine AW.ret ?_))
      have hr : withS m6 = [] := by rw [withS, if_neg hb]
      refine ⟨(_, _), by rw [hr, List.append_nil]; exact h1, ?_, rfl, rfl⟩
      (repeat (first | exact Weak.nil | refine Weak.junk _ ?_ | refine Weak.same _ ?_ | refine Weak.eqv (by (congr 1; first | omega | (simp; done) | exact w_i64 (by omega) (by omega))) ?_))
  clear h1
  rintro ⟨v, σ⟩ h1
  dsimp only at h1 ⊢
  rcases h1.own with ⟨rfl, hz⟩ | ⟨i2, g2, rfl, _⟩
  · exact absurd hz (by simp [strsE, evHeadV])
  simp only [strsE_length] at h1
  have l5 : (evHeadV u ts h ++ ruleS m5 ++ withS m6).length ≤ 10 := by rw [List.length_append]; omega
  (repeat' (first | refine AW.seq ?_ | refine AW.scope ?_ | refine AW.label ?_ | refine AW.block ?_ | refine AW.skip ?_ | refine AW.exit ?_ | refine AW.ret ?_))
  (refine AW.regionC fun Q' Kn hQ hK hK' => ?_; (repeat simp (disch := omega) only [go_sem, redN, Nat.reduceAdd, Int.reduceToNat, Int.reducePow]); (repeat' refine And.intro ?_ ?_); (try any_goals (first | (refine hK _ _ ?_; clear hK' hQ hK Q' Kn) | (intro hq9; refine ⟨hq9, ?_⟩; simp only [redB] at hq9; omega) | (intro hq9; refine ⟨hq9, fun hq8 => ?_⟩; rw [hq9, hq8]; rfl) | (simp; done) | omega | (simp only [redL]; omega) | (simp; omega) | (intros; (repeat' refine And.intro ?_ ?_) <;> (first | assumption | omega | (simp; done))))))
  refine AOp.buildSlice (e := 9) (sz := 1) (es := strsE [[69, 78, 68, 58, 86, 69, 86, 69, 78, 84], [69, 78, 68, 58, 86, 67, 65, 76, 69, 78, 68, 65, 82]]) rfl rfl rfl rfl (by simp [partsC, go_sem]) (by simp [aParts, go_sem, strsE]) (by simp [strsE]) rfl (by decide) (by decide) fun it2 hit2 => ?_
  (refine AOpsC_ok hK' _ _ _ ?_; (repeat simp (disch := omega) only [go_sem, redN, Nat.reduceAdd, Int.reduceToNat, Int.reducePow]); (repeat' refine And.intro ?_ ?_); (try any_goals (first | (refine hK _ _ ?_; clear hK' hQ hK Q' Kn) | (intro hq9; refine ⟨hq9, ?_⟩; simp only [redB] at hq9; omega) | (intro hq9; refine ⟨hq9, fun hq8 => ?_⟩; rw [hq9, hq8]; rfl) | (simp; done) | omega | (simp only [redL]; omega) | (simp; omega) | (intros; (repeat' refine And.intro ?_ ?_) <;> (first | assumption | omega | (simp; done))))))
  refine AOp.appendE (e := 9) (sz := 1) (by_ := 16) (es := strsE (evHeadV u ts h ++ ruleS m5 ++ withS m6)) (xs := strsE [[69, 78, 68, 58, 86, 69, 86, 69, 78, 84], [69, 78, 68, 58, 86, 67, 65, 76, 69, 78, 68, 65, 82]]) rfl rfl rfl rfl rfl rfl rfl (by decide) h1 hit2 rfl (by simp [isCell, strsE]) (by simp only [strsE_length, List.length_cons, List.length_nil]; omega) (by simp only [strsE_length, maxLen, List.length_cons, List.length_nil]; omega) (by simp [strsE]) fun v' σ' h9 => ?_
  (refine AOpsC_ok hK' _ _ _ ?_; (repeat simp (disch := omega) only [go_sem, redN, Nat.reduceAdd, Int.reduceToNat, Int.reducePow]); (repeat' refine And.intro ?_ ?_); (try any_goals (first | (refine hK _ _ ?_; clear hK' hQ hK Q' Kn) | (intro hq9; refine ⟨hq9, ?_⟩; simp only [redB] at hq9; omega) | (intro hq9; refine ⟨hq9, fun hq8 => ?_⟩; rw [hq9, hq8]; rfl) | (simp; done) | omega | (simp only [redL]; omega) | (simp; omega) | (intros; (repeat' refine And.intro ?_ ?_) <;> (first | assumption | omega | (simp; done))))))
  rw [← strsE_append] at h9
  rw [show evHeadV u ts h ++ ruleS m5 ++ withS m6 ++ [[69, 78, 68, 58, 86, 69, 86, 69, 78, 84], [69, 78, 68, 58, 86, 67, 65, 76, 69, 78, 68, 65, 82]] = evLinesV u ts h m5 m6 from rfl] at h9
  have l6 : (evLinesV u ts h m5 m6).length ≤ 12 := by simp only [evLinesV, List.length_append, List.length_cons, List.length_nil]; omega
  have l7 := eventV_len u ts h m5 m6 hu hts hh
  rw [eventV_eq, ← lines35_all] at l7 ⊢
  have l8 := lines35_le (evLinesV u ts h m5 m6)
  rw [← lines35_all] at l8
  rcases h9.own with ⟨rfl, hz⟩ | ⟨i3, g3, rfl, _⟩
  · exact absurd hz (by simp [strsE, evLinesV, evHeadV])
  (repeat' (first | refine AW.seq ?_ | refine AW.scope ?_ | refine AW.label ?_ | refine AW.block ?_ | refine AW.skip ?_ | refine AW.exit ?_ | refine AW.ret ?_))
  refine AW.settleT 4 rfl h9 (by intro e he c hc; rfl) ?_
  clear h9
  generalize evLinesV u ts h m5 m6 = L at *
  (repeat' (first | refine AW.seq ?_ | refine AW.scope ?_ | refine AW.label ?_ | refine AW.block ?_ | refine AW.skip ?_ | refine AW.exit ?_ | refine AW.ret ?_))
  (refine AW.regionC fun Q' Kn hQ hK hK' => ?_; (repeat simp (disch := omega) only [go_sem, redN, Nat.reduceAdd, Int.reduceToNat, Int.reducePow]); (repeat' refine And.intro ?_ ?_); (try any_goals (first | (refine hK _ _ ?_; clear hK' hQ hK Q' Kn) | (intro hq9; refine ⟨hq9, ?_⟩; simp only [redB] at hq9; omega) | (intro hq9; refine ⟨hq9, fun hq8 => ?_⟩; rw [hq9, hq8]; rfl) | (simp; done) | omega | (simp only [redL]; omega) | (simp; omega) | (intros; (repeat' refine And.intro ?_ ?_) <;> (first | assumption | omega | (simp; done))))))
  (repeat' (first | refine AW.seq ?_ | refine AW.scope ?_ | refine AW.label ?_ | refine AW.block ?_ | refine AW.skip ?_ | refine AW.exit ?_ | refine AW.ret ?_))
  (refine AW.regionC fun Q' Kn hQ hK hK' => ?_; (repeat simp (disch := omega) only [go_sem, redN, Nat.reduceAdd, Int.reduceToNat, Int.reducePow]); (repeat' refine And.intro ?_ ?_); (try any_goals (first | (refine hK _ _ ?_; clear hK' hQ hK Q' Kn) | (intro hq9; refine ⟨hq9, ?_⟩; simp only [redB] at hq9; omega) | (intro hq9; refine ⟨hq9, fun hq8 => ?_⟩; rw [hq9, hq8]; rfl) | (simp; done) | omega | (simp only [redL]; omega) | (simp; omega) | (intros; (repeat' refine And.intro ?_ ?_) <;> (first | assumption | omega | (simp; done))))))
  (repeat' (first | refine AW.seq ?_ | refine AW.scope ?_ | refine AW.label ?_ | refine AW.block ?_ | refine AW.skip ?_ | refine AW.exit ?_ | refine AW.ret ?_))
  refine AW.loopF (fun k : Nat => [.int .u64 s, .junk, .junk, .junk, .tree 1 (strsE L), .str (lines35 L k), .int .i64 k, .junk, .junk, .junk, .junk, .junk, .junk, .junk, .junk, .junk, .junk, .junk, .junk, .junk, .junk, .junk, .junk, .junk, .junk, .junk, .junk, .junk, .junk, .junk, .junk, .junk, .junk, .junk, .junk, .junk, .junk, .junk, .junk, .junk, .junk, .junk, .junk, .junk, .junk, .junk, .junk, .junk, .junk, .junk, .junk, .junk, .junk, .junk, .junk, .junk, .junk, .junk, .junk, .junk, .junk, .junk, .junk, .junk]) (fun _ => st') (fun k => k ≤ L.length) (fun k => L.length - k) 0 ?_ rfl ?_ ?_
  · (repeat (first | exact Weak.nil | refine Weak.junk _ ?_ | refine Weak.same _ ?_ | refine Weak.eqv (by (congr 1; first | omega | (simp; done) | exact w_i64 (by omega) (by omega))) ?_))
  · simp
  intro k hk
  have l9 := l8 k
  (repeat' (first | refine AW.seq ?_ | refine AW.scope ?_ | refine AW.label ?_ | refine AW.block ?_ | refine AW.skip ?_ | refine AW.exit ?_ | refine AW.ret ?_))
  (refine AW.regionC fun Q' Kn hQ hK hK' => ?_; (repeat simp (disch := omega) only [go_sem, redN, Nat.reduceAdd, Int.reduceToNat, Int.reducePow]); (repeat' refine And.intro ?_ ?_); (try any_goals (first | (refine hK _ _ ?_; clear hK' hQ hK Q' Kn) | (intro hq9; refine ⟨hq9, ?_⟩; simp only [redB] at hq9; omega) | (intro hq9; refine ⟨hq9, fun hq8 => ?_⟩; rw [hq9, hq8]; rfl) | (simp; done) | omega | (simp only [redL]; omega) | (simp; omega) | (intros; (repeat' refine And.intro ?_ ?_) <;> (first | assumption | omega | (simp; done))))))
  (repeat' (first | refine AW.seq ?_ | refine AW.scope ?_ | refine AW.label ?_ | refine AW.block ?_ | refine AW.skip ?_ | refine AW.exit ?_ | refine AW.ret ?_))
  (refine AW.cond (by simp (disch := omega) only [go_sem, redN, Nat.reduceAdd, Int.reduceToNat, Int.reducePow]; rfl) (fun hb => ?_) (fun hb => ?_) <;> (try simp only [redB] at hb))
  · have hs := lines35_step L k (by omega)
    have l11 := l8 (k + 1)
    rw [hs] at l11
    simp only [List.length_append, List.length_cons, List.length_nil] at l11
    (repeat' (first | refine AW.seq ?_ | refine AW.scope ?_ | refine AW.label ?_ | refine AW.block ?_ | refine AW.skip ?_ | refine AW.exit ?_ | refine AW.ret ?_))
    (refine AW.regionC fun Q' Kn hQ hK hK' => ?_; (repeat simp (disch := omega) only [go_sem, redN, Nat.reduceAdd, Int.reduceToNat, Int.reducePow]); (repeat' refine And.intro ?_ ?_); (try any_goals (first | (refine hK _ _ ?_; clear hK' hQ hK Q' Kn) | (intro hq9; refine ⟨hq9, ?_⟩; simp only [redB] at hq9; omega) | (intro hq9; refine ⟨hq9, fun hq8 => ?_⟩; rw [hq9, hq8]; rfl) | (simp; done) | omega | (simp only [redL]; omega) | (simp; omega) | (intros; (repeat' refine And.intro ?_ ?_) <;> (first | assumption | omega | (simp; done))))))
    (repeat' (first | refine AW.seq ?_ | refine AW.scope ?_ | refine AW.label ?_ | refine AW.block ?_ | refine AW.skip ?_ | refine AW.exit ?_ | refine AW.ret ?_))
    (refine AW.regionC fun Q' Kn hQ hK hK' => ?_; (repeat simp (disch := omega) only [go_sem, redN, Nat.reduceAdd, Int.reduceToNat, Int.reducePow]); (repeat' refine And.intro ?_ ?_); (try any_goals (first | (refine hK _ _ ?_; clear hK' hQ hK Q' Kn) | (intro hq9; refine ⟨hq9, ?_⟩; simp only [redB] at hq9; omega) | (intro hq9; refine ⟨hq9, fun hq8 => ?_⟩; rw [hq9, hq8]; rfl) | (simp; done) | omega | (simp only [redL]; omega) | (simp; omega) | (intros; (repeat' refine And.intro ?_ ?_) <;> (first | assumption | omega | (simp; done))))))
    simp only [List.append_assoc, Int.toNat_natCast]
    rw [← hs]
    refine ⟨k + 1, by omega, by omega, ?_, rfl, rfl⟩
    (repeat (first | exact Weak.nil | refine Weak.junk _ ?_ | refine Weak.same _ ?_ | refine Weak.eqv (by (congr 1; first | omega | (simp; done) | exact w_i64 (by omega) (by omega))) ?_))
  · (repeat' (first | refine AW.seq ?_ | refine AW.scope ?_ | refine AW.label ?_ | refine AW.block ?_ | refine AW.skip ?_ | refine AW.exit ?_ | refine AW.ret ?_))
    (refine AW.regionC fun Q' Kn hQ hK hK' => ?_; (repeat simp (disch := omega) only [go_sem, redN, Nat.reduceAdd, Int.reduceToNat, Int.reducePow]); (repeat' refine And.intro ?_ ?_); (try any_goals (first | (refine hK _ _ ?_; clear hK' hQ hK Q' Kn) | (intro hq9; refine ⟨hq9, ?_⟩; simp only [redB] at hq9; omega) | (intro hq9; refine ⟨hq9, fun hq8 => ?_⟩; rw [hq9, hq8]; rfl) | (simp; done) | omega | (simp only [redL]; omega) | (simp; omega) | (intros; (repeat' refine And.intro ?_ ?_) <;> (first | assumption | omega | (simp; done))))))
    (repeat' (first | refine AW.seq ?_ | refine AW.scope ?_ | refine AW.label ?_ | refine AW.block ?_ | refine AW.skip ?_ | refine AW.exit ?_ | refine AW.ret ?_))
    (refine ⟨_, _, rfl, by simp, ?_⟩; simp only [aTup, AA.get, List.getD_cons_zero, List.getD_cons_succ, true_and])
    have : k = L.length := by omega
    subst this
    exact ⟨St.sub_refl _, rfl⟩
theorem r_StampV (G : Nat → AV) (t : Int) (h0 : -9223372036854775808 ≤ t) (h1 : t ≤ 9223372036854775807) (st : St) : ACalls (Ev G) 23 [.int .i64 t] st (fun e st' => st' = st ∧ e = .ret (.str (stampF t))) :=
  ACalls.mono (r_Stamp G t h0 h1 st) (fun _ _ h => ⟨h.1, h.2.2⟩) 
theorem r_EventN (G : Nat → AV) (s n1 n2 n3 n4 n5 n6 : Int)
    (p1 : ∀ σ : St, ACalls (Ev G) 18 [.int .u64 s, .int .u64 1, .int .u64 6] σ (fun e st' => st' = σ ∧ e = .ret (.int .i64 (n1 % 6))))
    (p2 : ∀ σ : St, ACalls (Ev G) 18 [.int .u64 s, .int .u64 2, .int .u64 60] σ (fun e st' => st' = σ ∧ e = .ret (.int .i64 (n2 % 60))))
    (p3 : ∀ σ : St, ACalls (Ev G) 18 [.int .u64 s, .int .u64 3, .int .u64 24] σ (fun e st' => st' = σ ∧ e = .ret (.int .i64 (n3 % 24))))
    (p4 : ∀ σ : St, ACalls (Ev G) 18 [.int .u64 s, .int .u64 4, .int .u64 5] σ (fun e st' => st' = σ ∧ e = .ret (.int .i64 (n4 % 5))))
    (p5 : ∀ σ : St, ACalls (Ev G) 18 [.int .u64 s, .int .u64 5, .int .u64 4] σ (fun e st' => st' = σ ∧ e = .ret (.int .i64 (n5 % 4))))
    (p6 : ∀ σ : St, ACalls (Ev G) 18 [.int .u64 s, .int .u64 6, .int .u64 3] σ (fun e st' => st' = σ ∧ e = .ret (.int .i64 (n6 % 3)))) (st : St) :
    ACalls (Ev G) 11 [.int .u64 s] st (fun e st' => st' = st ∧ e = .ret (.str (eventV (numT (n1 % 6)) (stampF (evTimeV n2 n3)) (numT (n4 % 5)) (n5 % 4) (n6 % 3)))) :=
  r_EventV G s _ _ _ _ _ _ _ _ _ (by omega) (by omega) (by omega) (by omega) (numT_len (by omega) (by omega)) (stampF_len35 _) (numT_len (by omega) (by omega)) p1 p2 p3 p4 p5 p6
    (fun σ => r_num35 G (n1 % 6) (by omega) (by omega) σ) (fun σ => r_StampV G (evTimeV n2 n3) (by unfold evTimeV; omega) (by unfold evTimeV; omega) σ) (fun σ => r_num35 G (n4 % 5) (by omega) (by omega) σ) st
theorem r_Event (G : Nat → AV) (s : Int) (st : St) : ACalls (Ev G) 11 [.int .u64 s] st (fun e st' => st' = st ∧ e = .ret (.str (eventF s))) :=
  r_EventN G s _ _ _ _ _ _ (fun σ => r_pick G s 1 6 (by decide) (by decide) σ) (fun σ => r_pick G s 2 60 (by decide) (by decide) σ) (fun σ => r_pick G s 3 24 (by decide) (by decide) σ)
    (fun σ => r_pick G s 4 5 (by decide) (by decide) σ) (fun σ => r_pick G s 5 4 (by decide) (by decide) σ) (fun σ => r_pick G s 6 3 (by decide) (by decide) σ) st
end Go.Almanac

/- Requests as bytes. -/
namespace Go.Almanac
open Go.RowKit Go.Proofs Go.Abs

set_option linter.unusedSimpArgs false
set_option linter.unusedVariables false
set_option linter.unusedSectionVars false
set_option maxRecDepth 10000
set_option maxHeartbeats 1000000

/-- Headers, as parts of a slice. -/
def hdrE (l : List (List UInt8 × List UInt8)) : List (List AV) := l.map fun h => [.str h.1, .str h.2]
@[simp] theorem hdrE_length (l : List (List UInt8 × List UInt8)) : (hdrE l).length = l.length := by simp [hdrE]
theorem hdrE_getD {l : List (List UInt8 × List UInt8)} {i : Nat} (h : i < l.length) : (hdrE l).getD i [] = [.str (l.getD i ([], [])).1, .str (l.getD i ([], [])).2] := by
  simp [hdrE, List.getD, List.getElem?_eq_getElem h]
attribute [go_sem] hdrE_getD hdrE_length
/-- A header's line. -/
def headL (h : List UInt8 × List UInt8) : List UInt8 := h.1 ++ (58 :: 32 :: (h.2 ++ [13, 10]))
/-- So many headers. -/
def headsF (l : List (List UInt8 × List UInt8)) (k : Nat) : List UInt8 := ((l.take k).map headL).flatten
theorem headsF_step (l : List (List UInt8 × List UInt8)) (k : Nat) (hk : k < l.length) : headsF l (k + 1) = headsF l k ++ headL (l.getD k ([], [])) := by
  unfold headsF
  rw [List.take_succ_eq_append_getElem hk, List.map_append, List.flatten_append]
  simp [List.getD, List.getElem?_eq_getElem hk]
theorem headsF_le (l : List (List UInt8 × List UInt8)) (k : Nat) : (headsF l k).length ≤ (headsF l l.length).length := by
  unfold headsF
  conv => rhs; rw [List.take_length, ← List.take_append_drop k l, List.map_append, List.flatten_append, List.length_append]
  omega
/-- A request as bytes. -/
def writeF (m t : List UInt8) (l : List (List UInt8 × List UInt8)) (body : List UInt8) : List UInt8 := m ++ (32 :: (t ++ ([32, 72, 84, 84, 80, 47, 49, 46, 49, 13, 10] ++ (headsF l l.length ++ (13 :: 10 :: body)))))
theorem sub_keep35 {β σ st : St} {b : Nat} {B : Blk} (h : st.sub β) (hb : st b = none) (hk : ∀ i, β i ≠ none → i ≠ b → σ i = β i) : st.sub σ := fun i A hi => by
  have e : i ≠ b := fun e => by subst e; rw [hb] at hi; cases hi
  rw [hk i (by rw [h i A hi]; simp) e, h i A hi]

theorem t_headers (G : Nat → AV) (b : Nat) (bs : List UInt8) (l : List (List UInt8 × List UInt8)) (β st : St) (h : BW β b st bs) (hl : bs.length + (headsF l l.length).length ≤ 100000) (hn : l.length ≤ 1000) :
    ACalls (Ev G) 47 [.ptr b 0 0 0, .tree 2 (hdrE l)] st (fun e st' => e = .ret (.tup []) ∧ BW β b st' (bs ++ headsF l l.length)) := by
  have hle := headsF_le l
  refine ACalls.of_body Tryd.func47 rfl ?_
  rw [Tryd.ntmps47]
  simp only [List.length_cons, List.length_nil, Nat.reduceAdd, Nat.reduceSub, List.replicate_succ, List.replicate_zero, List.cons_append, List.nil_append]
  (repeat' (first | refine AW.seq ?_ | refine AW.scope ?_ | refine AW.label ?_ | refine AW.block ?_ | refine AW.skip ?_ | refine AW.exit ?_ | refine AW.ret ?_))
  (refine AW.regionC fun Q' Kn hQ hK hK' => ?_; (repeat simp (disch := omega) only [go_sem, redN, Nat.reduceAdd, Int.reduceToNat, Int.reducePow]); (repeat' refine And.intro ?_ ?_); (try any_goals (first | (refine hK _ _ ?_; clear hK' hQ hK Q' Kn) | (intro hq9; refine ⟨hq9, ?_⟩; simp only [redB] at hq9; omega) | (intro hq9; refine ⟨hq9, fun hq8 => ?_⟩; rw [hq9, hq8]; rfl) | (simp; done) | omega | (simp only [redL]; omega) | (simp only [List.length_append, List.length_cons, List.length_nil, hdrE_length]; omega) | (simp; omega) | (intros; (repeat' refine And.intro ?_ ?_) <;> (first | assumption | omega | (simp; done))))))
  (repeat' (first | refine AW.seq ?_ | refine AW.scope ?_ | refine AW.label ?_ | refine AW.block ?_ | refine AW.skip ?_ | refine AW.exit ?_ | refine AW.ret ?_))
  refine AW.loopF (fun x : Nat × St => [.ptr b 0 0 0, .tree 2 (hdrE l), .junk, .junk, .junk, .junk, .tree 2 (hdrE l), .int .i64 l.length, .int .i64 x.1, .junk, .junk, .junk, .junk, .junk, .junk, .junk, .junk, .junk, .junk, .junk, .junk, .junk]) (fun x => x.2)
    (fun x => x.1 ≤ l.length ∧ BW β b x.2 (bs ++ headsF l x.1)) (fun x => l.length - x.1) (0, st) ?_ rfl ?_ ?_
  · (repeat (first | exact Weak.nil | refine Weak.junk _ ?_ | refine Weak.same _ ?_ | refine Weak.eqv (by (congr 1; first | omega | (simp; done) | exact w_i64 (by omega) (by omega))) ?_))
  · exact ⟨by simp, by simpa [headsF] using h⟩
  rintro ⟨k, σ⟩ ⟨g1, g2⟩
  dsimp only at g1 g2 ⊢
  (repeat' (first | refine AW.seq ?_ | refine AW.scope ?_ | refine AW.label ?_ | refine AW.block ?_ | refine AW.skip ?_ | refine AW.exit ?_ | refine AW.ret ?_))
  (refine AW.regionC fun Q' Kn hQ hK hK' => ?_; (repeat simp (disch := omega) only [go_sem, redN, Nat.reduceAdd, Int.reduceToNat, Int.reducePow]); (repeat' refine And.intro ?_ ?_); (try any_goals (first | (refine hK _ _ ?_; clear hK' hQ hK Q' Kn) | (intro hq9; refine ⟨hq9, ?_⟩; simp only [redB] at hq9; omega) | (intro hq9; refine ⟨hq9, fun hq8 => ?_⟩; rw [hq9, hq8]; rfl) | (simp; done) | omega | (simp only [redL]; omega) | (simp only [List.length_append, List.length_cons, List.length_nil, hdrE_length]; omega) | (simp; omega) | (intros; (repeat' refine And.intro ?_ ?_) <;> (first | assumption | omega | (simp; done))))))
  (repeat' (first | refine AW.seq ?_ | refine AW.scope ?_ | refine AW.label ?_ | refine AW.block ?_ | refine AW.skip ?_ | refine AW.exit ?_ | refine AW.ret ?_))
  (refine AW.cond (by simp (disch := omega) only [go_sem, redN, Nat.reduceAdd, Int.reduceToNat, Int.reducePow]; rfl) (fun hb => ?_) (fun hb => ?_) <;> (try simp only [redB] at hb))
  · have hk : k < l.length := by omega
    have hs := headsF_step l k hk
    have h1 := hle (k + 1)
    have h0 := hle k
    rw [hs] at h1
    generalize hx : l.getD k ([], []) = x at hs h1
    simp only [headL, List.length_append, List.length_cons, List.length_nil] at h1
    (repeat' (first | refine AW.seq ?_ | refine AW.scope ?_ | refine AW.label ?_ | refine AW.block ?_ | refine AW.skip ?_ | refine AW.exit ?_ | refine AW.ret ?_))
    (refine AW.regionC fun Q' Kn hQ hK hK' => ?_; (repeat simp (disch := omega) only [go_sem, redN, Nat.reduceAdd, Int.reduceToNat, Int.reducePow]); (repeat' refine And.intro ?_ ?_); (try any_goals (first | (refine hK _ _ ?_; clear hK' hQ hK Q' Kn) | (intro hq9; refine ⟨hq9, ?_⟩; simp only [redB] at hq9; omega) | (intro hq9; refine ⟨hq9, fun hq8 => ?_⟩; rw [hq9, hq8]; rfl) | (simp; done) | omega | (simp only [redL]; omega) | (simp only [List.length_append, List.length_cons, List.length_nil, hdrE_length]; omega) | (simp; omega) | (intros; (repeat' refine And.intro ?_ ?_) <;> (first | assumption | omega | (simp; done))))))
    simp only [hx]
    refine AOp.alloc rfl (by simp only [go_sem]; rfl) fun bx hbx => ?_
    (refine AOpsC_ok hK' _ _ _ ?_; (repeat simp (disch := omega) only [go_sem, redN, Nat.reduceAdd, Int.reduceToNat, Int.reducePow]); (repeat' refine And.intro ?_ ?_); (try any_goals (first | (refine hK _ _ ?_; clear hK' hQ hK Q' Kn) | (intro hq9; refine ⟨hq9, ?_⟩; simp only [redB] at hq9; omega) | (intro hq9; refine ⟨hq9, fun hq8 => ?_⟩; rw [hq9, hq8]; rfl) | (simp; done) | omega | (simp only [redL]; omega) | (simp only [List.length_append, List.length_cons, List.length_nil, hdrE_length]; omega) | (simp; omega) | (intros; (repeat' refine And.intro ?_ ?_) <;> (first | assumption | omega | (simp; done))))))
    refine AOp.storeAll (cs := [.str x.1, .str x.2]) rfl (by simp only [go_sem] <;> rfl) (by simp [go_sem]) (St.set_same _ _ _) (by first | (simp only [go_sem]; done) | (simp [go_sem]; done) | (simp [go_sem]; omega)) (by simp [go_sem, isCell]) rfl rfl rfl ?_
    (refine AOpsC_ok hK' _ _ _ ?_; (repeat simp (disch := omega) only [go_sem, redN, Nat.reduceAdd, Int.reduceToNat, Int.reducePow]); (repeat' refine And.intro ?_ ?_); (try any_goals (first | (refine hK _ _ ?_; clear hK' hQ hK Q' Kn) | (intro hq9; refine ⟨hq9, ?_⟩; simp only [redB] at hq9; omega) | (intro hq9; refine ⟨hq9, fun hq8 => ?_⟩; rw [hq9, hq8]; rfl) | (simp; done) | omega | (simp only [redL]; omega) | (simp only [List.length_append, List.length_cons, List.length_nil, hdrE_length]; omega) | (simp; omega) | (intros; (repeat' refine And.intro ?_ ?_) <;> (first | assumption | omega | (simp; done))))))
    refine AW.freeze 5 rfl (St.set_same _ _ _) ?_
    rw [St.set_set, St.del_set _ _ hbx]
    (repeat' (first | refine AW.seq ?_ | refine AW.scope ?_ | refine AW.label ?_ | refine AW.block ?_ | refine AW.skip ?_ | refine AW.exit ?_ | refine AW.ret ?_))
    (refine AW.regionC fun Q' Kn hQ hK hK' => ?_; (repeat simp (disch := omega) only [go_sem, redN, Nat.reduceAdd, Int.reduceToNat, Int.reducePow]); (repeat' refine And.intro ?_ ?_); (try any_goals (first | (refine hK _ _ ?_; clear hK' hQ hK Q' Kn) | (intro hq9; refine ⟨hq9, ?_⟩; simp only [redB] at hq9; omega) | (intro hq9; refine ⟨hq9, fun hq8 => ?_⟩; rw [hq9, hq8]; rfl) | (simp; done) | omega | (simp only [redL]; omega) | (simp only [List.length_append, List.length_cons, List.length_nil, hdrE_length]; omega) | (simp; omega) | (intros; (repeat' refine And.intro ?_ ?_) <;> (first | assumption | omega | (simp; done))))))
    simp only [List.append_assoc, List.cons_append, List.nil_append]
    refine AOp.call rfl (by simp only [go_sem]; rfl) (by simp [go_sem]) rfl (ACalls.mono (by simp only [go_sem]; exact w_WriteStringA G (headL x) g2 (by simp only [headL, List.length_append, List.length_cons, List.length_nil]; omega)) ?_)
    rintro e σ2 ⟨rfl, g4⟩
    (refine AOpsC_ok hK' _ _ _ ?_; (repeat simp (disch := omega) only [go_sem, redN, Nat.reduceAdd, Int.reduceToNat, Int.reducePow]); (repeat' refine And.intro ?_ ?_); (try any_goals (first | (refine hK _ _ ?_; clear hK' hQ hK Q' Kn) | (intro hq9; refine ⟨hq9, ?_⟩; simp only [redB] at hq9; omega) | (intro hq9; refine ⟨hq9, fun hq8 => ?_⟩; rw [hq9, hq8]; rfl) | (simp; done) | omega | (simp only [redL]; omega) | (simp only [List.length_append, List.length_cons, List.length_nil, hdrE_length]; omega) | (simp; omega) | (intros; (repeat' refine And.intro ?_ ?_) <;> (first | assumption | omega | (simp; done))))))
    (repeat' (first | refine AW.seq ?_ | refine AW.scope ?_ | refine AW.label ?_ | refine AW.block ?_ | refine AW.skip ?_ | refine AW.exit ?_ | refine AW.ret ?_))
    (refine AW.regionC fun Q' Kn hQ hK hK' => ?_; (repeat simp (disch := omega) only [go_sem, redN, Nat.reduceAdd, Int.reduceToNat, Int.reducePow]); (repeat' refine And.intro ?_ ?_); (try any_goals (first | (refine hK _ _ ?_; clear hK' hQ hK Q' Kn) | (intro hq9; refine ⟨hq9, ?_⟩; simp only [redB] at hq9; omega) | (intro hq9; refine ⟨hq9, fun hq8 => ?_⟩; rw [hq9, hq8]; rfl) | (simp; done) | omega | (simp only [redL]; omega) | (simp only [List.length_append, List.length_cons, List.length_nil, hdrE_length]; omega) | (simp; omega) | (intros; (repeat' refine And.intro ?_ ?_) <;> (first | assumption | omega | (simp; done))))))
    rw [List.append_assoc, ← hs] at g4
    refine ⟨(k + 1, σ2), ⟨by dsimp only; omega, g4⟩, by dsimp only; omega, ?_, rfl, rfl⟩
    dsimp only
    (repeat (first | exact Weak.nil | refine Weak.junk _ ?_ | refine Weak.same _ ?_ | refine Weak.eqv (by (congr 1; first | omega | (simp; done) | exact w_i64 (by omega) (by omega))) ?_))
  · (repeat' (first | refine AW.seq ?_ | refine AW.scope ?_ | refine AW.label ?_ | refine AW.block ?_ | refine AW.skip ?_ | refine AW.exit ?_ | refine AW.ret ?_))
    (refine ⟨_, _, rfl, by simp, ?_⟩; simp only [aTup, AA.get, List.getD_cons_zero, List.getD_cons_succ, true_and])
    have : k = l.length := by omega
    subst this
    exact g2
set_option maxHeartbeats 4000000 in
theorem t_Write (G : Nat → AV) (m t body : List UInt8) (l : List (List UInt8 × List UInt8)) (st : St) (hm : m.length ≤ 1000) (ht : t.length ≤ 1000) (hb : body.length ≤ 10000) (hl : (headsF l l.length).length ≤ 50000) (hn : l.length ≤ 1000) :
    ACalls (Ev G) 26 [.agg [.str m, .str t, .tree 2 (hdrE l), .str body]] st (fun e st' => st' = st ∧ e = .ret (.str (writeF m t l body))) := by
  refine ACalls.thaw (R' := fun e st' => st.sub st' ∧ e = .ret (.str (writeF m t l body))) ?_ (fun x st1 h => ⟨2, st, h.1, rfl, by rw [h.2]; rfl⟩)
  refine ACalls.of_body Tryd.func26 rfl ?_
  rw [Tryd.ntmps26]
  simp only [List.length_cons, List.length_nil, Nat.reduceAdd, Nat.reduceSub, List.replicate_succ, List.replicate_zero, List.cons_append, List.nil_append]
  (repeat' (first | refine AW.seq ?_ | refine AW.scope ?_ | refine AW.label ?_ | refine AW.block ?_ | refine AW.skip ?_ | refine AW.exit ?_ | refine AW.ret ?_))
  (refine AW.regionC fun Q' Kn hQ hK hK' => ?_; (repeat simp (disch := omega) only [go_sem, redN, Nat.reduceAdd, Int.reduceToNat, Int.reducePow]); (repeat' refine And.intro ?_ ?_); (try any_goals (first | (refine hK _ _ ?_; clear hK' hQ hK Q' Kn) | (intro hq9; refine ⟨hq9, ?_⟩; simp only [redB] at hq9; omega) | (intro hq9; refine ⟨hq9, fun hq8 => ?_⟩; rw [hq9, hq8]; rfl) | (simp; done) | omega | (simp only [redL]; omega) | (simp only [List.length_append, List.length_cons, List.length_nil, hdrE_length]; omega) | (simp; omega) | (intros; (repeat' refine And.intro ?_ ?_) <;> (first | assumption | omega | (simp; done))))))
  refine AOp.box rfl (by simp [go_sem]) (by simp only [go_sem]; rfl) fun b0 hb0 => ?_
  (refine AOpsC_ok hK' _ _ _ ?_; (repeat simp (disch := omega) only [go_sem, redN, Nat.reduceAdd, Int.reduceToNat, Int.reducePow]); (repeat' refine And.intro ?_ ?_); (try any_goals (first | (refine hK _ _ ?_; clear hK' hQ hK Q' Kn) | (intro hq9; refine ⟨hq9, ?_⟩; simp only [redB] at hq9; omega) | (intro hq9; refine ⟨hq9, fun hq8 => ?_⟩; rw [hq9, hq8]; rfl) | (simp; done) | omega | (simp only [redL]; omega) | (simp only [List.length_append, List.length_cons, List.length_nil, hdrE_length]; omega) | (simp; omega) | (intros; (repeat' refine And.intro ?_ ?_) <;> (first | assumption | omega | (simp; done))))))
  refine AW.freeze 1 rfl (St.set_same _ _ _) ?_
  rw [St.del_set _ _ hb0]
  (repeat' (first | refine AW.seq ?_ | refine AW.scope ?_ | refine AW.label ?_ | refine AW.block ?_ | refine AW.skip ?_ | refine AW.exit ?_ | refine AW.ret ?_))
  (refine AW.regionC fun Q' Kn hQ hK hK' => ?_; (repeat simp (disch := omega) only [go_sem, redN, Nat.reduceAdd, Int.reduceToNat, Int.reducePow]); (repeat' refine And.intro ?_ ?_); (try any_goals (first | (refine hK _ _ ?_; clear hK' hQ hK Q' Kn) | (intro hq9; refine ⟨hq9, ?_⟩; simp only [redB] at hq9; omega) | (intro hq9; refine ⟨hq9, fun hq8 => ?_⟩; rw [hq9, hq8]; rfl) | (simp; done) | omega | (simp only [redL]; omega) | (simp only [List.length_append, List.length_cons, List.length_nil, hdrE_length]; omega) | (simp; omega) | (intros; (repeat' refine And.intro ?_ ?_) <;> (first | assumption | omega | (simp; done))))))
  refine AOp.alloc rfl (by simp only [go_sem]; rfl) fun b hb1 => ?_
  (refine AOpsC_ok hK' _ _ _ ?_; (repeat simp (disch := omega) only [go_sem, redN, Nat.reduceAdd, Int.reduceToNat, Int.reducePow]); (repeat' refine And.intro ?_ ?_); (try any_goals (first | (refine hK _ _ ?_; clear hK' hQ hK Q' Kn) | (intro hq9; refine ⟨hq9, ?_⟩; simp only [redB] at hq9; omega) | (intro hq9; refine ⟨hq9, fun hq8 => ?_⟩; rw [hq9, hq8]; rfl) | (simp; done) | omega | (simp only [redL]; omega) | (simp only [List.length_append, List.length_cons, List.length_nil, hdrE_length]; omega) | (simp; omega) | (intros; (repeat' refine And.intro ?_ ?_) <;> (first | assumption | omega | (simp; done))))))
  have hw0 : BW (st.set b (.cells 66 0 2 [[.nilp, .nils]])) b _ [] := BW.new (St.set_same _ _ _)
  have hsub : st.sub (st.set b (.cells 66 0 2 [[.nilp, .nils]])) := St.sub_set (St.sub_refl st) hb1 _
  generalize hβ : St.set st b _ = β at hw0 hsub ⊢
  (repeat' (first | refine AW.seq ?_ | refine AW.scope ?_ | refine AW.label ?_ | refine AW.block ?_ | refine AW.skip ?_ | refine AW.exit ?_ | refine AW.ret ?_))
  (refine AW.regionC fun Q' Kn hQ hK hK' => ?_; (repeat simp (disch := omega) only [go_sem, redN, Nat.reduceAdd, Int.reduceToNat, Int.reducePow]); (repeat' refine And.intro ?_ ?_); (try any_goals (first | (refine hK _ _ ?_; clear hK' hQ hK Q' Kn) | (intro hq9; refine ⟨hq9, ?_⟩; simp only [redB] at hq9; omega) | (intro hq9; refine ⟨hq9, fun hq8 => ?_⟩; rw [hq9, hq8]; rfl) | (simp; done) | omega | (simp only [redL]; omega) | (simp only [List.length_append, List.length_cons, List.length_nil, hdrE_length]; omega) | (simp; omega) | (intros; (repeat' refine And.intro ?_ ?_) <;> (first | assumption | omega | (simp; done))))))
  simp only [List.append_assoc, List.cons_append, List.nil_append]
  refine AOp.call rfl (by simp only [go_sem]; rfl) (by simp [go_sem]) rfl (ACalls.mono (by simp only [go_sem]; exact w_WriteStringA G (m ++ (32 :: (t ++ [32, 72, 84, 84, 80, 47, 49, 46, 49, 13, 10]))) hw0 (by simp only [List.length_append, List.length_cons, List.length_nil]; omega)) ?_)
  rintro e σ2 ⟨rfl, g1⟩
  (refine AOpsC_ok hK' _ _ _ ?_; (repeat simp (disch := omega) only [go_sem, redN, Nat.reduceAdd, Int.reduceToNat, Int.reducePow]); (repeat' refine And.intro ?_ ?_); (try any_goals (first | (refine hK _ _ ?_; clear hK' hQ hK Q' Kn) | (intro hq9; refine ⟨hq9, ?_⟩; simp only [redB] at hq9; omega) | (intro hq9; refine ⟨hq9, fun hq8 => ?_⟩; rw [hq9, hq8]; rfl) | (simp; done) | omega | (simp only [redL]; omega) | (simp only [List.length_append, List.length_cons, List.length_nil, hdrE_length]; omega) | (simp; omega) | (intros; (repeat' refine And.intro ?_ ?_) <;> (first | assumption | omega | (simp; done))))))
  (repeat' (first | refine AW.seq ?_ | refine AW.scope ?_ | refine AW.label ?_ | refine AW.block ?_ | refine AW.skip ?_ | refine AW.exit ?_ | refine AW.ret ?_))
  (refine AW.regionC fun Q' Kn hQ hK hK' => ?_; (repeat simp (disch := omega) only [go_sem, redN, Nat.reduceAdd, Int.reduceToNat, Int.reducePow]); (repeat' refine And.intro ?_ ?_); (try any_goals (first | (refine hK _ _ ?_; clear hK' hQ hK Q' Kn) | (intro hq9; refine ⟨hq9, ?_⟩; simp only [redB] at hq9; omega) | (intro hq9; refine ⟨hq9, fun hq8 => ?_⟩; rw [hq9, hq8]; rfl) | (simp; done) | omega | (simp only [redL]; omega) | (simp only [List.length_append, List.length_cons, List.length_nil, hdrE_length]; omega) | (simp; omega) | (intros; (repeat' refine And.intro ?_ ?_) <;> (first | assumption | omega | (simp; done))))))
  refine AOp.call rfl (by simp only [go_sem]; rfl) (by simp [go_sem]) rfl (ACalls.mono (by simp only [go_sem]; exact t_headers G b _ l _ _ g1 (by simp only [List.length_append, List.length_cons, List.length_nil]; omega) hn) ?_)
  rintro e σ3 ⟨rfl, g2⟩
  (refine AOpsC_ok hK' _ _ _ ?_; (repeat simp (disch := omega) only [go_sem, redN, Nat.reduceAdd, Int.reduceToNat, Int.reducePow]); (repeat' refine And.intro ?_ ?_); (try any_goals (first | (refine hK _ _ ?_; clear hK' hQ hK Q' Kn) | (intro hq9; refine ⟨hq9, ?_⟩; simp only [redB] at hq9; omega) | (intro hq9; refine ⟨hq9, fun hq8 => ?_⟩; rw [hq9, hq8]; rfl) | (simp; done) | omega | (simp only [redL]; omega) | (simp only [List.length_append, List.length_cons, List.length_nil, hdrE_length]; omega) | (simp; omega) | (intros; (repeat' refine And.intro ?_ ?_) <;> (first | assumption | omega | (simp; done))))))
  (repeat' (first | refine AW.seq ?_ | refine AW.scope ?_ | refine AW.label ?_ | refine AW.block ?_ | refine AW.skip ?_ | refine AW.exit ?_ | refine AW.ret ?_))
  (refine AW.regionC fun Q' Kn hQ hK hK' => ?_; (repeat simp (disch := omega) only [go_sem, redN, Nat.reduceAdd, Int.reduceToNat, Int.reducePow]); (repeat' refine And.intro ?_ ?_); (try any_goals (first | (refine hK _ _ ?_; clear hK' hQ hK Q' Kn) | (intro hq9; refine ⟨hq9, ?_⟩; simp only [redB] at hq9; omega) | (intro hq9; refine ⟨hq9, fun hq8 => ?_⟩; rw [hq9, hq8]; rfl) | (simp; done) | omega | (simp only [redL]; omega) | (simp only [List.length_append, List.length_cons, List.length_nil, hdrE_length]; omega) | (simp; omega) | (intros; (repeat' refine And.intro ?_ ?_) <;> (first | assumption | omega | (simp; done))))))
  refine AOp.call rfl (by simp only [go_sem]; rfl) (by simp [go_sem]) rfl (ACalls.mono (by simp only [go_sem]; exact w_WriteStringA G (13 :: 10 :: body) g2 (by simp only [List.length_append, List.length_cons, List.length_nil]; omega)) ?_)
  rintro e σ4 ⟨rfl, g3⟩
  (refine AOpsC_ok hK' _ _ _ ?_; (repeat simp (disch := omega) only [go_sem, redN, Nat.reduceAdd, Int.reduceToNat, Int.reducePow]); (repeat' refine And.intro ?_ ?_); (try any_goals (first | (refine hK _ _ ?_; clear hK' hQ hK Q' Kn) | (intro hq9; refine ⟨hq9, ?_⟩; simp only [redB] at hq9; omega) | (intro hq9; refine ⟨hq9, fun hq8 => ?_⟩; rw [hq9, hq8]; rfl) | (simp; done) | omega | (simp only [redL]; omega) | (simp only [List.length_append, List.length_cons, List.length_nil, hdrE_length]; omega) | (simp; omega) | (intros; (repeat' refine And.intro ?_ ?_) <;> (first | assumption | omega | (simp; done))))))
  (repeat' (first | refine AW.seq ?_ | refine AW.scope ?_ | refine AW.label ?_ | refine AW.block ?_ | refine AW.skip ?_ | refine AW.exit ?_ | refine AW.ret ?_))
  (refine AW.regionC fun Q' Kn hQ hK hK' => ?_; (repeat simp (disch := omega) only [go_sem, redN, Nat.reduceAdd, Int.reduceToNat, Int.reducePow]); (repeat' refine And.intro ?_ ?_); (try any_goals (first | (refine hK _ _ ?_; clear hK' hQ hK Q' Kn) | (intro hq9; refine ⟨hq9, ?_⟩; simp only [redB] at hq9; omega) | (intro hq9; refine ⟨hq9, fun hq8 => ?_⟩; rw [hq9, hq8]; rfl) | (simp; done) | omega | (simp only [redL]; omega) | (simp only [List.length_append, List.length_cons, List.length_nil, hdrE_length]; omega) | (simp; omega) | (intros; (repeat' refine And.intro ?_ ?_) <;> (first | assumption | omega | (simp; done))))))
  refine AOp.call rfl (by simp only [go_sem]; rfl) (by simp [go_sem]) rfl (ACalls.mono (by simp only [go_sem]; exact w_String G g3) ?_)
  rintro e σ5 ⟨rfl, k4⟩
  (refine AOpsC_ok hK' _ _ _ ?_; (repeat simp (disch := omega) only [go_sem, redN, Nat.reduceAdd, Int.reduceToNat, Int.reducePow]); (repeat' refine And.intro ?_ ?_); (try any_goals (first | (refine hK _ _ ?_; clear hK' hQ hK Q' Kn) | (intro hq9; refine ⟨hq9, ?_⟩; simp only [redB] at hq9; omega) | (intro hq9; refine ⟨hq9, fun hq8 => ?_⟩; rw [hq9, hq8]; rfl) | (simp; done) | omega | (simp only [redL]; omega) | (simp only [List.length_append, List.length_cons, List.length_nil, hdrE_length]; omega) | (simp; omega) | (intros; (repeat' refine And.intro ?_ ?_) <;> (first | assumption | omega | (simp; done))))))
  (repeat' (first | refine AW.seq ?_ | refine AW.scope ?_ | refine AW.label ?_ | refine AW.block ?_ | refine AW.skip ?_ | refine AW.exit ?_ | refine AW.ret ?_))
  (refine ⟨_, _, rfl, by simp, ?_⟩; simp only [aTup, AA.get, List.getD_cons_zero, List.getD_cons_succ, true_and])
  exact ⟨sub_keep hsub hb1 k4, by simp [writeF]⟩

theorem r_headers (G : Nat → AV) (l : List (List UInt8 × List UInt8)) (st : St) (hl : (headsF l l.length).length ≤ 100000) (hn : l.length ≤ 1000) :
    ACalls (Ev G) 48 [.tree 2 (hdrE l)] st (fun e st' => st' = st ∧ e = .ret (.str (headsF l l.length))) := by
  have hle := headsF_le l
  refine ACalls.of_body Tryd.func48 rfl ?_
  rw [Tryd.ntmps48]
  simp only [List.length_cons, List.length_nil, Nat.reduceAdd, Nat.reduceSub, List.replicate_succ, List.replicate_zero, List.cons_append, List.nil_append]
  (repeat' (first | refine AW.seq ?_ | refine AW.scope ?_ | refine AW.label ?_ | refine AW.block ?_ | refine AW.skip ?_ | refine AW.exit ?_ | refine AW.ret ?_))
  (refine AW.regionC fun Q' Kn hQ hK hK' => ?_; (repeat simp (disch := omega) only [go_sem, redN, Nat.reduceAdd, Int.reduceToNat, Int.reducePow]); (repeat' refine And.intro ?_ ?_); (try any_goals (first | (refine hK _ _ ?_; clear hK' hQ hK Q' Kn) | (intro hq9; refine ⟨hq9, ?_⟩; simp only [redB] at hq9; omega) | (intro hq9; refine ⟨hq9, fun hq8 => ?_⟩; rw [hq9, hq8]; rfl) | (simp; done) | omega | (simp only [redL]; omega) | (simp only [List.length_append, List.length_cons, List.length_nil, hdrE_length]; omega) | (simp; omega) | (intros; (repeat' refine And.intro ?_ ?_) <;> (first | assumption | omega | (simp; done))))))
  (repeat' (first | refine AW.seq ?_ | refine AW.scope ?_ | refine AW.label ?_ | refine AW.block ?_ | refine AW.skip ?_ | refine AW.exit ?_ | refine AW.ret ?_))
  (refine AW.regionC fun Q' Kn hQ hK hK' => ?_; (repeat simp (disch := omega) only [go_sem, redN, Nat.reduceAdd, Int.reduceToNat, Int.reducePow]); (repeat' refine And.intro ?_ ?_); (try any_goals (first | (refine hK _ _ ?_; clear hK' hQ hK Q' Kn) | (intro hq9; refine ⟨hq9, ?_⟩; simp only [redB] at hq9; omega) | (intro hq9; refine ⟨hq9, fun hq8 => ?_⟩; rw [hq9, hq8]; rfl) | (simp; done) | omega | (simp only [redL]; omega) | (simp only [List.length_append, List.length_cons, List.length_nil, hdrE_length]; omega) | (simp; omega) | (intros; (repeat' refine And.intro ?_ ?_) <;> (first | assumption | omega | (simp; done))))))
  (repeat' (first | refine AW.seq ?_ | refine AW.scope ?_ | refine AW.label ?_ | refine AW.block ?_ | refine AW.skip ?_ | refine AW.exit ?_ | refine AW.ret ?_))
  (refine AW.regionC fun Q' Kn hQ hK hK' => ?_; (repeat simp (disch := omega) only [go_sem, redN, Nat.reduceAdd, Int.reduceToNat, Int.reducePow]); (repeat' refine And.intro ?_ ?_); (try any_goals (first | (refine hK _ _ ?_; clear hK' hQ hK Q' Kn) | (intro hq9; refine ⟨hq9, ?_⟩; simp only [redB] at hq9; omega) | (intro hq9; refine ⟨hq9, fun hq8 => ?_⟩; rw [hq9, hq8]; rfl) | (simp; done) | omega | (simp only [redL]; omega) | (simp only [List.length_append, List.length_cons, List.length_nil, hdrE_length]; omega) | (simp; omega) | (intros; (repeat' refine And.intro ?_ ?_) <;> (first | assumption | omega | (simp; done))))))
  (repeat' (first | refine AW.seq ?_ | refine AW.scope ?_ | refine AW.label ?_ | refine AW.block ?_ | refine AW.skip ?_ | refine AW.exit ?_ | refine AW.ret ?_))
  refine AW.loopF (fun x : Nat => [.tree 2 (hdrE l), .junk, .junk, .str (headsF l x), .int .i64 x, .junk, .junk, .junk, .junk, .junk, .junk, .junk, .junk, .junk, .junk, .junk, .junk, .junk, .junk, .junk, .junk, .junk, .junk, .junk, .junk, .junk, .junk]) (fun _ => st)
    (fun x => x ≤ l.length) (fun x => l.length - x) 0 ?_ rfl ?_ ?_
  · (repeat (first | exact Weak.nil | refine Weak.junk _ ?_ | refine Weak.same _ ?_ | refine Weak.eqv (by (congr 1; first | omega | (simp; done) | exact w_i64 (by omega) (by omega))) ?_))
  · simp
  intro k g1
  (repeat' (first | refine AW.seq ?_ | refine AW.scope ?_ | refine AW.label ?_ | refine AW.block ?_ | refine AW.skip ?_ | refine AW.exit ?_ | refine AW.ret ?_))
  (refine AW.regionC fun Q' Kn hQ hK hK' => ?_; (repeat simp (disch := omega) only [go_sem, redN, Nat.reduceAdd, Int.reduceToNat, Int.reducePow]); (repeat' refine And.intro ?_ ?_); (try any_goals (first | (refine hK _ _ ?_; clear hK' hQ hK Q' Kn) | (intro hq9; refine ⟨hq9, ?_⟩; simp only [redB] at hq9; omega) | (intro hq9; refine ⟨hq9, fun hq8 => ?_⟩; rw [hq9, hq8]; rfl) | (simp; done) | omega | (simp only [redL]; omega) | (simp only [List.length_append, List.length_cons, List.length_nil, hdrE_length]; omega) | (simp; omega) | (intros; (repeat' refine And.intro ?_ ?_) <;> (first | assumption | omega | (simp; done))))))
  (repeat' (first | refine AW.seq ?_ | refine AW.scope ?_ | refine AW.label ?_ | refine AW.block ?_ | refine AW.skip ?_ | refine AW.exit ?_ | refine AW.ret ?_))
  (refine AW.cond (by simp (disch := omega) only [go_sem, redN, Nat.reduceAdd, Int.reduceToNat, Int.reducePow]; rfl) (fun hb => ?_) (fun hb => ?_) <;> (try simp only [redB] at hb))
  · have hk : k < l.length := by omega
    have hs := headsF_step l k hk
    have h1 := hle (k + 1)
    have h0 := hle k
    rw [hs] at h1
    simp only [headL, List.length_append, List.length_cons, List.length_nil] at h1
    (repeat' (first | refine AW.seq ?_ | refine AW.scope ?_ | refine AW.label ?_ | refine AW.block ?_ | refine AW.skip ?_ | refine AW.exit ?_ | refine AW.ret ?_))
    refine AW.drawn (List.range 16) (by decide +kernel) fun Q' Kn hQ hK hK' => ?_
    refine FxC_ok _ _ _ ?_; (repeat simp (disch := omega) only [go_sem, redN, Nat.reduceAdd, Int.reduceToNat, Int.reducePow]); (repeat' refine And.intro ?_ ?_); (try any_goals (first | (refine hK _ _ ?_; clear hK' hQ hK Q' Kn) | (intro hq9; refine ⟨hq9, ?_⟩; simp only [redB] at hq9; omega) | (intro hq9; refine ⟨hq9, fun hq8 => ?_⟩; rw [hq9, hq8]; rfl) | (simp; done) | omega | (simp only [redL]; omega) | (simp only [List.length_append, List.length_cons, List.length_nil, hdrE_length]; omega) | (simp; omega) | (intros; (repeat' refine And.intro ?_ ?_) <;> (first | assumption | omega | (simp; done)))))
    (repeat' (first | refine AW.seq ?_ | refine AW.scope ?_ | refine AW.label ?_ | refine AW.block ?_ | refine AW.skip ?_ | refine AW.exit ?_ | refine AW.ret ?_))
    (refine AW.regionC fun Q' Kn hQ hK hK' => ?_; (repeat simp (disch := omega) only [go_sem, redN, Nat.reduceAdd, Int.reduceToNat, Int.reducePow]); (repeat' refine And.intro ?_ ?_); (try any_goals (first | (refine hK _ _ ?_; clear hK' hQ hK Q' Kn) | (intro hq9; refine ⟨hq9, ?_⟩; simp only [redB] at hq9; omega) | (intro hq9; refine ⟨hq9, fun hq8 => ?_⟩; rw [hq9, hq8]; rfl) | (simp; done) | omega | (simp only [redL]; omega) | (simp only [List.length_append, List.length_cons, List.length_nil, hdrE_length]; omega) | (simp; omega) | (intros; (repeat' refine And.intro ?_ ?_) <;> (first | assumption | omega | (simp; done))))))
    simp only [List.append_assoc, List.cons_append, List.nil_append]
    rw [show headsF l k ++ ((l.getD k ([], [])).1 ++ 58 :: 32 :: ((l.getD k ([], [])).2 ++ [13, 10])) = headsF l (k + 1) from hs.symm]
    refine ⟨k + 1, by omega, by omega, ?_, rfl, rfl⟩
    (repeat (first | exact Weak.nil | refine Weak.junk _ ?_ | refine Weak.same _ ?_ | refine Weak.eqv (by (congr 1; first | omega | (simp; done) | exact w_i64 (by omega) (by omega))) ?_))
  · (repeat' (first | refine AW.seq ?_ | refine AW.scope ?_ | refine AW.label ?_ | refine AW.block ?_ | refine AW.skip ?_ | refine AW.exit ?_ | refine AW.ret ?_))
    (refine AW.regionC fun Q' Kn hQ hK hK' => ?_; (repeat simp (disch := omega) only [go_sem, redN, Nat.reduceAdd, Int.reduceToNat, Int.reducePow]); (repeat' refine And.intro ?_ ?_); (try any_goals (first | (refine hK _ _ ?_; clear hK' hQ hK Q' Kn) | (intro hq9; refine ⟨hq9, ?_⟩; simp only [redB] at hq9; omega) | (intro hq9; refine ⟨hq9, fun hq8 => ?_⟩; rw [hq9, hq8]; rfl) | (simp; done) | omega | (simp only [redL]; omega) | (simp only [List.length_append, List.length_cons, List.length_nil, hdrE_length]; omega) | (simp; omega) | (intros; (repeat' refine And.intro ?_ ?_) <;> (first | assumption | omega | (simp; done))))))
    (repeat' (first | refine AW.seq ?_ | refine AW.scope ?_ | refine AW.label ?_ | refine AW.block ?_ | refine AW.skip ?_ | refine AW.exit ?_ | refine AW.ret ?_))
    (refine ⟨_, _, rfl, by simp, ?_⟩; simp only [aTup, AA.get, List.getD_cons_zero, List.getD_cons_succ, true_and])
    have : k = l.length := by omega
    subst this
    rfl
theorem r_Write (G : Nat → AV) (m t body : List UInt8) (l : List (List UInt8 × List UInt8)) (st : St) (hm : m.length ≤ 1000) (ht : t.length ≤ 1000) (hb : body.length ≤ 10000) (hl : (headsF l l.length).length ≤ 50000) (hn : l.length ≤ 1000) :
    ACalls (Ev G) 28 [.agg [.str m, .str t, .tree 2 (hdrE l), .str body]] st (fun e st' => st' = st ∧ e = .ret (.str (writeF m t l body))) := by
  refine ACalls.thaw (R' := fun e st' => st.sub st' ∧ e = .ret (.str (writeF m t l body))) ?_ (fun x st1 h => ⟨2, st, h.1, rfl, by rw [h.2]; rfl⟩)
  refine ACalls.of_body Tryd.func28 rfl ?_
  rw [Tryd.ntmps28]
  simp only [List.length_cons, List.length_nil, Nat.reduceAdd, Nat.reduceSub, List.replicate_succ, List.replicate_zero, List.cons_append, List.nil_append]
  (repeat' (first | refine AW.seq ?_ | refine AW.scope ?_ | refine AW.label ?_ | refine AW.block ?_ | refine AW.skip ?_ | refine AW.exit ?_ | refine AW.ret ?_))
  (refine AW.regionC fun Q' Kn hQ hK hK' => ?_; (repeat simp (disch := omega) only [go_sem, redN, Nat.reduceAdd, Int.reduceToNat, Int.reducePow]); (repeat' refine And.intro ?_ ?_); (try any_goals (first | (refine hK _ _ ?_; clear hK' hQ hK Q' Kn) | (intro hq9; refine ⟨hq9, ?_⟩; simp only [redB] at hq9; omega) | (intro hq9; refine ⟨hq9, fun hq8 => ?_⟩; rw [hq9, hq8]; rfl) | (simp; done) | omega | (simp only [redL]; omega) | (simp only [List.length_append, List.length_cons, List.length_nil, hdrE_length]; omega) | (simp; omega) | (intros; (repeat' refine And.intro ?_ ?_) <;> (first | assumption | omega | (simp; done))))))
  refine AOp.box rfl (by simp [go_sem]) (by simp only [go_sem]; rfl) fun b0 hb0 => ?_
  (refine AOpsC_ok hK' _ _ _ ?_; (repeat simp (disch := omega) only [go_sem, redN, Nat.reduceAdd, Int.reduceToNat, Int.reducePow]); (repeat' refine And.intro ?_ ?_); (try any_goals (first | (refine hK _ _ ?_; clear hK' hQ hK Q' Kn) | (intro hq9; refine ⟨hq9, ?_⟩; simp only [redB] at hq9; omega) | (intro hq9; refine ⟨hq9, fun hq8 => ?_⟩; rw [hq9, hq8]; rfl) | (simp; done) | omega | (simp only [redL]; omega) | (simp only [List.length_append, List.length_cons, List.length_nil, hdrE_length]; omega) | (simp; omega) | (intros; (repeat' refine And.intro ?_ ?_) <;> (first | assumption | omega | (simp; done))))))
  refine AW.freeze 1 rfl (St.set_same _ _ _) ?_
  rw [St.del_set _ _ hb0]
  (repeat' (first | refine AW.seq ?_ | refine AW.scope ?_ | refine AW.label ?_ | refine AW.block ?_ | refine AW.skip ?_ | refine AW.exit ?_ | refine AW.ret ?_))
  refine AW.drawn (List.range 16) (by decide +kernel) fun Q' Kn hQ hK hK' => ?_
  refine FxC_ok _ _ _ ?_; (repeat simp (disch := omega) only [go_sem, redN, Nat.reduceAdd, Int.reduceToNat, Int.reducePow]); (repeat' refine And.intro ?_ ?_); (try any_goals (first | (refine hK _ _ ?_; clear hK' hQ hK Q' Kn) | (intro hq9; refine ⟨hq9, ?_⟩; simp only [redB] at hq9; omega) | (intro hq9; refine ⟨hq9, fun hq8 => ?_⟩; rw [hq9, hq8]; rfl) | (simp; done) | omega | (simp only [redL]; omega) | (simp only [List.length_append, List.length_cons, List.length_nil, hdrE_length]; omega) | (simp; omega) | (intros; (repeat' refine And.intro ?_ ?_) <;> (first | assumption | omega | (simp; done)))))
  refine ⟨_, Fixed.call (f := 48) (v := .str (headsF l l.length)) rfl rfl rfl (by simp only [go_sem] <;> rfl) (by simp [go_sem]) rfl (by simp only [go_sem]; exact r_headers G l _ (by omega) hn), ?_⟩
  refine FxC_ok _ _ _ ?_; (repeat simp (disch := omega) only [go_sem, redN, Nat.reduceAdd, Int.reduceToNat, Int.reducePow]); (repeat' refine And.intro ?_ ?_); (try any_goals (first | (refine hK _ _ ?_; clear hK' hQ hK Q' Kn) | (intro hq9; refine ⟨hq9, ?_⟩; simp only [redB] at hq9; omega) | (intro hq9; refine ⟨hq9, fun hq8 => ?_⟩; rw [hq9, hq8]; rfl) | (simp; done) | omega | (simp only [redL]; omega) | (simp only [List.length_append, List.length_cons, List.length_nil, hdrE_length]; omega) | (simp; omega) | (intros; (repeat' refine And.intro ?_ ?_) <;> (first | assumption | omega | (simp; done)))))
  (repeat' (first | refine AW.seq ?_ | refine AW.scope ?_ | refine AW.label ?_ | refine AW.block ?_ | refine AW.skip ?_ | refine AW.exit ?_ | refine AW.ret ?_))
  (refine ⟨_, _, rfl, by simp, ?_⟩; simp only [aTup, AA.get, List.getD_cons_zero, List.getD_cons_succ, true_and])
  exact ⟨St.sub_refl _, by simp [writeF]⟩
end Go.Almanac
