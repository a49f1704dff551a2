/- Texts joined, by the kit's contract. -/
import Derived.Test.YtojkdncegglceaaDoorM5
import Derived.Test.YtojkdncegglceaaDoorM4
import Derived.Test.YtojkdncegglceaaDoorMS
/- Slices of a text to its end. -/
namespace Go.Almanac
open Go.RowKit Go.Proofs Go.Abs

@[simp] theorem take_rest {α : Type} (s : List α) (n : Nat) : (s.drop n).take (s.length - n) = s.drop n := List.take_of_length_le (by simp)
attribute [go_sem] List.drop_nil List.drop_zero Nat.sub_zero take_rest Nat.add_sub_cancel List.take_length
theorem frozen2 {st : St} {b c : Nat} (B C : Blk) (hb : st b = none) (hc : st c = none) : (((st.set b B).set c C).del b).del c = st := by
  funext k
  simp only [St.set, St.del]
  by_cases h : k = c
  · subst h; simp [hc]
  · by_cases h2 : k = b
    · subst h2; simp [h, hb]
    · simp [h, h2]
end Go.Almanac

/- Lists of texts. -/
namespace Go.Almanac
open Go.RowKit Go.Proofs Go.Abs

def strsE (l : List (List UInt8)) : List (List AV) := l.map fun s => [.str s]
@[simp] theorem strsE_length (l : List (List UInt8)) : (strsE l).length = l.length := by simp [strsE]
theorem strsE_append (a b : List (List UInt8)) : strsE (a ++ b) = strsE a ++ strsE b := by simp [strsE]
theorem strsE_nil {l : List (List UInt8)} : strsE l = [] ↔ l = [] := by simp [strsE]
theorem strsE_getD {l : List (List UInt8)} {i : Nat} (h : i < l.length) : (strsE l).getD i [] = [.str (l.getD i [])] := by
  simp [strsE, List.getD, List.getElem?_eq_getElem h]
attribute [go_sem] strsE_getD strsE_length
/-- Two lists agree up to here, and are of one length. -/
theorem take_eq_of {α} {a b : List α} (hl : a.length = b.length) {k : Nat} (h : a.take k = b.take k) (hk : a.length ≤ k) : a = b := by
  rw [List.take_of_length_le hk, List.take_of_length_le (by omega)] at h; exact h
theorem take_step {α} {a b : List α} (d : α) {k : Nat} (ha : k < a.length) (hb : k < b.length) (h : a.take k = b.take k) (he : a.getD k d = b.getD k d) : a.take (k + 1) = b.take (k + 1) := by
  rw [List.take_succ_eq_append_getElem ha, List.take_succ_eq_append_getElem hb, h]
  simp only [List.getD, List.getElem?_eq_getElem ha, List.getElem?_eq_getElem hb, Option.getD_some] at he
  rw [he]
end Go.Almanac

/- Texts joined, by the kit's contract. -/
namespace Go.Almanac
open Go.RowKit Go.Proofs Go.Abs

set_option linter.unusedSimpArgs false
set_option linter.unusedVariables false
set_option linter.unusedSectionVars false
set_option maxRecDepth 10000
set_option maxHeartbeats 1000000

theorem VRE_strs {κ : K} {rd : Nat → Option Value} : ∀ {l : List (List UInt8)} {o : Nat}, VRE κ rd 1 (strsE l) o → ∀ j x, (l.map fun s => (⟨s.toArray⟩ : ByteArray))[j]? = some x → rd (o + j) = some (.string x)
  | [], _, _, j, x, hx => by simp at hx
  | s :: l, o, h, j, x, hx => by
    simp only [strsE, List.map_cons, VRE, VRF, VR] at h
    obtain ⟨_, ⟨⟨v, h1, rfl⟩, _⟩, h2⟩ := h
    cases j with
    | zero => simp at hx; subst hx; simpa using h1
    | succ j =>
      have := VRE_strs (l := l) (o := o + 1) h2 j x (by simpa using hx)
      rw [show o + (j + 1) = o + 1 + j from by omega]; exact this

theorem b_Join (G : Nat → AV) (l : List (List UInt8)) (sep : List UInt8) (hl : l.length ≤ 140737488355328) (hj : (Lib.join l sep).length ≤ 140737488355328) (st : St) :
    ACalls (Ev G) 21 [.tree 1 (strsE l), .str sep] st (fun e st' => st' = st ∧ e = .ret (.str (Lib.join l sep))) := by
  intro κ w cs hR ha
  simp only [VRs] at ha
  obtain ⟨v1, vs1, hcs, h1, v2, vs2, rfl, h2, rfl⟩ := ha
  simp only [VR] at h2
  subst h2
  have fin : ∀ w', Below w.heap.size w w' → upE (Ev G) κ (fun e st' => st' = st ∧ e = .ret (.str (Lib.join l sep))) (.returned (.string ⟨(Lib.join l sep).toArray⟩)) w' := fun w' hb =>
    ⟨κ, .ret (.str (Lib.join l sep)), st, K.Le.refl κ, hR.below hb, ⟨_, rfl, rfl⟩, rfl, rfl⟩
  simp only [VR] at h1
  have hcs' : cs = #[v1, .string ⟨sep.toArray⟩] := Array.toList_inj.1 hcs
  subst hcs'
  have hnone : ∀ a c, v1 = .slice a 0 c → l = [] → CallsIn .wide 0 (Ev G).P 21 #[v1, .string ⟨sep.toArray⟩] w (upE (Ev G) κ fun e st' => st' = st ∧ e = .ret (.str (Lib.join l sep))) := by
    rintro a c rfl rfl
    refine CallsIn.mono (callsIn_wide.2 (Tryd.strings_Join_none a c ⟨sep.toArray⟩ w)) ?_
    rintro e w' ⟨rfl, rfl⟩
    exact fin _ (Below.refl _ _)
  rcases h1 with ⟨h0, h1⟩ | ⟨a, c, h1, h2, h3, h4⟩
  · exact hnone _ _ h1 (strsE_nil.1 h0)
  · rw [strsE_length] at h1 h2
    by_cases hn : l = []
    · exact hnone (some a) c (by rw [h1, hn]; rfl) hn
    · have hsp : a.spot = none := by
        rcases h3 with h3 | h3
        · exact absurd (strsE_nil.1 h3) hn
        · exact h3
      obtain ⟨bk, o, sp⟩ := a
      dsimp only at hsp h4
      subst hsp
      have hcells : ∀ (j : Nat) x, (l.map fun s => (⟨s.toArray⟩ : ByteArray))[j]? = some x → w.cell? ⟨bk, o + j, none⟩ = some (.string x) := fun j x hx => hR.fzw _ _ _ (VRE_strs h4 j x hx)
      have hbk : bk < w.heap.size := by
        cases l with
        | nil => exact absurd rfl hn
        | cons s l =>
          have h5 := hcells 0 _ rfl
          rcases Nat.lt_or_ge bk w.heap.size with h6 | h6
          · exact h6
          · simp [World.cell?, Array.getElem?_eq_none h6] at h5
      have hm : (l.map fun s => (⟨s.toArray⟩ : ByteArray)).map (·.data.toList) = l := by simp [Function.comp_def]
      have := Tryd.strings_Join bk o c (l.map fun s => (⟨s.toArray⟩ : ByteArray)) ⟨sep.toArray⟩ w hcells hbk (by simpa using hl) (by simpa using h2) (by rw [hm]; exact hj)
      rw [hm, List.length_map] at this
      subst h1
      refine CallsIn.mono (callsIn_wide.2 this) ?_
      rintro e w' ⟨rfl, hb⟩
      exact fin _ hb

/-IF f{strings.ContainsAny}-/
end Go.Almanac
