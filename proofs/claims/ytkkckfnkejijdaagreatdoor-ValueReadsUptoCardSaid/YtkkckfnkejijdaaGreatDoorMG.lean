/- Lists of texts. -/
import Derived.Test.YtkkckfnkejijdaaGreatDoorM5
import Derived.Test.YtkkckfnkejijdaaGreatDoorM3
import Derived.Test.YtkkckfnkejijdaaGreatDoorMS
/- The library's variables that are read. -/
namespace Go.Almanac
open Go.RowKit Go.Proofs Go.Abs

def firsts : List AV := (List.range 256).map fun c => .int .u8 (Lib.firstT c)
def accepts : List AV := (List.range 32).map fun j => .int .u8 (if j % 2 = 0 then Lib.accLo (j / 2) else Lib.accHi (j / 2))
/-- The library's variables that the text reads. -/
def Gt (m : Int) : Nat → AV
  | 2 => .fptr firsts
  | 3 => .fptr accepts
  | 0 => .fptr [.int .i64 m]
  | _ => .fptr []

theorem tabs_of {m : Int} {κ : K} {st : St} {w : World} (hR : Rel (Ev (Gt m)) κ st w) : Lib.Utf8Tabs 2 3 w := by
  refine ⟨fun c hc => ?_, fun i hi => ⟨?_, ?_⟩⟩
  · exact hR.gcell (g := 2) rfl (by rw [firsts, List.getElem?_map, List.getElem?_range hc]; rfl)
  · exact hR.gcell (g := 3) rfl (by rw [accepts, List.getElem?_map, List.getElem?_range (by omega)]; simp)
  · exact hR.gcell (g := 3) rfl (by rw [accepts, List.getElem?_map, List.getElem?_range (by omega)]; simp [show (2 * i + 1) / 2 = i from by omega, show (2 * i + 1) % 2 = 1 from by omega])
theorem maxlen_of {m : Int} {κ : K} {st : St} {w : World} (hR : Rel (Ev (Gt m)) κ st w) : w.cell? ⟨0, 0, none⟩ = some (.int .i64 m) :=
  hR.gcell (g := 0) rfl rfl
end Go.Almanac

/- Slices of a text to its end. -/
namespace Go.Almanac
open Go.RowKit Go.Proofs Go.Abs

@[simp] theorem take_rest {α : Type} (s : List α) (n : Nat) : (s.drop n).take (s.length - n) = s.drop n := List.take_of_length_le (by simp)
attribute [go_sem] List.drop_nil List.drop_zero Nat.sub_zero take_rest Nat.add_sub_cancel List.take_length
theorem frozen2 {st : St} {b c : Nat} (B C : Blk) (hb : st b = none) (hc : st c = none) : (((st.set b B).set c C).del b).del c = st := by
  funext k
  simp only [St.set, St.del]
  by_cases h : k = c
  · subst h; simp [hc]
  · by_cases h2 : k = b
    · subst h2; simp [h, hb]
    · simp [h, h2]
end Go.Almanac

/- The library's functions on texts, by their contracts. -/
namespace Go.Almanac
open Go.RowKit Go.Proofs Go.Abs

set_option linter.unusedSimpArgs false
set_option linter.unusedVariables false
set_option linter.unusedSectionVars false
set_option maxRecDepth 10000
set_option maxHeartbeats 1000000

theorem b_HasPrefix (G : Nat → AV) (s p : List UInt8) (st : St) : ACalls (Ev G) 74 [.str s, .str p] st (fun e st' => st' = st ∧ e = .ret (.bool (Lib.hasPrefix s p))) := by
  refine ACalls.of_callsR (cargs := #[.string ⟨s.toArray⟩, .string ⟨p.toArray⟩]) (cv := .bool (Lib.hasPrefix s p)) (fun κ c h => ?_) (fun κ => ?_) fun κ w hR => ?_
  · simp only [VRs, VR] at h
    obtain ⟨v1, vs1, h1, rfl, v2, vs2, rfl, rfl, rfl⟩ := h
    rw [h1]
  · simp [VR]
  · refine Calls.mono (Tryz.strings_HasPrefix ⟨s.toArray⟩ ⟨p.toArray⟩ w) ?_
    rintro e w' ⟨rfl, rfl⟩
    exact ⟨rfl, Below.refl _ _⟩
theorem b_Cut (m : Int) (s sep : List UInt8) (hs : s.length ≤ 1048576) (st : St) : ACalls (Ev (Gt m)) 80 [.str s, .str sep] st (fun e st' => st' = st ∧ e = .ret (.tup [.str (Lib.cut s sep).1, .str (Lib.cut s sep).2.1, .bool (Lib.cut s sep).2.2])) := by
  refine ACalls.of_callsR (cargs := #[.string ⟨s.toArray⟩, .string ⟨sep.toArray⟩]) (cv := .tuple #[.string ⟨(Lib.cut s sep).1.toArray⟩, .string ⟨(Lib.cut s sep).2.1.toArray⟩, .bool (Lib.cut s sep).2.2]) (fun κ c h => ?_) (fun κ => ?_) fun κ w hR => ?_
  · simp only [VRs, VR] at h
    obtain ⟨v1, vs1, e1, rfl, v2, vs2, rfl, rfl, rfl⟩ := h
    rw [e1]
  · simp [VR, VRs]
  · refine Calls.mono (Tryz.strings_Cut ⟨s.toArray⟩ ⟨sep.toArray⟩ m w (by show s.toArray.size < _; simp; omega) (maxlen_of hR)) ?_
    rintro e w' ⟨rfl, n, rfl⟩
    exact ⟨rfl, ⟨rfl, rfl, rfl, Nat.le_refl _, fun _ _ => rfl⟩⟩
theorem b_TrimSuffix (G : Nat → AV) (s p : List UInt8) (hs : s.length ≤ 1048576) (st : St) : ACalls (Ev G) 168 [.str s, .str p] st (fun e st' => st' = st ∧ e = .ret (.str (Lib.trimSuffix s p))) := by
  refine ACalls.of_calls (cargs := #[.string ⟨s.toArray⟩, .string ⟨p.toArray⟩]) (cv := .string ⟨(Lib.trimSuffix s p).toArray⟩) (fun κ c h => ?_) (fun κ => ?_) fun w => ?_
  · simp only [VRs, VR] at h
    obtain ⟨v1, vs1, e1, rfl, v2, vs2, rfl, rfl, rfl⟩ := h
    rw [e1]
  · simp [VR, VRs]
  · refine Calls.mono (Tryz.strings_TrimSuffix ⟨s.toArray⟩ ⟨p.toArray⟩ w (by show s.toArray.size ≤ _; simp; omega)) ?_
    rintro e w' ⟨rfl, rfl⟩
    exact ⟨rfl, Below.refl _ _⟩
theorem b_HasSuffix (G : Nat → AV) (s p : List UInt8) (hs : s.length ≤ 1048576) (st : St) : ACalls (Ev G) 142 [.str s, .str p] st (fun e st' => st' = st ∧ e = .ret (.bool (Lib.hasSuffix s p))) := by
  refine ACalls.of_callsR (cargs := #[.string ⟨s.toArray⟩, .string ⟨p.toArray⟩]) (cv := .bool (Lib.hasSuffix s p)) (fun κ c h => ?_) (fun κ => ?_) fun κ w hR => ?_
  · simp only [VRs, VR] at h
    obtain ⟨v1, vs1, h1, rfl, v2, vs2, rfl, rfl, rfl⟩ := h
    rw [h1]
  · simp [VR]
  · refine Calls.mono (Tryz.strings_HasSuffix ⟨s.toArray⟩ ⟨p.toArray⟩ w (by show s.toArray.size ≤ _; simp; omega)) ?_
    rintro e w' ⟨rfl, rfl⟩
    exact ⟨rfl, Below.refl _ _⟩
theorem b_CutPrefix (G : Nat → AV) (s p : List UInt8) (st : St) : ACalls (Ev G) 75 [.str s, .str p] st (fun e st' => st' = st ∧ e = .ret (.tup [.str (Lib.trimPrefix s p), .bool (Lib.hasPrefix s p)])) := by
  refine ACalls.of_callsR (cargs := #[.string ⟨s.toArray⟩, .string ⟨p.toArray⟩]) (cv := .tuple #[.string ⟨(Lib.trimPrefix s p).toArray⟩, .bool (Lib.hasPrefix s p)]) (fun κ c h => ?_) (fun κ => ?_) fun κ w hR => ?_
  · simp only [VRs, VR] at h
    obtain ⟨v1, vs1, h1, rfl, v2, vs2, rfl, rfl, rfl⟩ := h
    rw [h1]
  · simp [VR, VRs]
  · refine Calls.mono (Tryz.strings_CutPrefix ⟨s.toArray⟩ ⟨p.toArray⟩ w) ?_
    rintro e w' ⟨rfl, rfl⟩
    exact ⟨rfl, Below.refl _ _⟩
theorem b_CutSuffix (G : Nat → AV) (s p : List UInt8) (hs : s.length ≤ 1048576) (st : St) : ACalls (Ev G) 86 [.str s, .str p] st (fun e st' => st' = st ∧ e = .ret (.tup [.str (Lib.trimSuffix s p), .bool (Lib.hasSuffix s p)])) := by
  refine ACalls.of_callsR (cargs := #[.string ⟨s.toArray⟩, .string ⟨p.toArray⟩]) (cv := .tuple #[.string ⟨(Lib.trimSuffix s p).toArray⟩, .bool (Lib.hasSuffix s p)]) (fun κ c h => ?_) (fun κ => ?_) fun κ w hR => ?_
  · simp only [VRs, VR] at h
    obtain ⟨v1, vs1, h1, rfl, v2, vs2, rfl, rfl, rfl⟩ := h
    rw [h1]
  · simp [VR, VRs]
  · refine Calls.mono (Tryz.strings_CutSuffix ⟨s.toArray⟩ ⟨p.toArray⟩ w (by show s.toArray.size ≤ _; simp; omega)) ?_
    rintro e w' ⟨rfl, rfl⟩
    exact ⟨rfl, Below.refl _ _⟩
end Go.Almanac

/- Lists of texts. -/
namespace Go.Almanac
open Go.RowKit Go.Proofs Go.Abs

def strsE (l : List (List UInt8)) : List (List AV) := l.map fun s => [.str s]
@[simp] theorem strsE_length (l : List (List UInt8)) : (strsE l).length = l.length := by simp [strsE]
theorem strsE_append (a b : List (List UInt8)) : strsE (a ++ b) = strsE a ++ strsE b := by simp [strsE]
theorem strsE_nil {l : List (List UInt8)} : strsE l = [] ↔ l = [] := by simp [strsE]
theorem strsE_getD {l : List (List UInt8)} {i : Nat} (h : i < l.length) : (strsE l).getD i [] = [.str (l.getD i [])] := by
  simp [strsE, List.getD, List.getElem?_eq_getElem h]
attribute [go_sem] strsE_getD strsE_length
/-- Two lists agree up to here, and are of one length. -/
theorem take_eq_of {α} {a b : List α} (hl : a.length = b.length) {k : Nat} (h : a.take k = b.take k) (hk : a.length ≤ k) : a = b := by
  rw [List.take_of_length_le hk, List.take_of_length_le (by omega)] at h; exact h
theorem take_step {α} {a b : List α} (d : α) {k : Nat} (ha : k < a.length) (hb : k < b.length) (h : a.take k = b.take k) (he : a.getD k d = b.getD k d) : a.take (k + 1) = b.take (k + 1) := by
  rw [List.take_succ_eq_append_getElem ha, List.take_succ_eq_append_getElem hb, h]
  simp only [List.getD, List.getElem?_eq_getElem ha, List.getElem?_eq_getElem hb, Option.getD_some] at he
  rw [he]
end Go.Almanac
