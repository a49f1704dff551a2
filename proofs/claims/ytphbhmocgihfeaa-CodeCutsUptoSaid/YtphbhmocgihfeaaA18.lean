/- THE ABSTRACT MEMORY (part 18): from a law's contract to the machine. -/
import Derived.Test.YtphbhmocgihfeaaA17
namespace Go.Abs
open Go.RowKit
set_option linter.unusedSectionVars false
set_option linter.unusedVariables false

/-- Where a law begins: all that is there is frozen. -/
def K.start (W : World) : K := { loc := fun _ => none, fz := fun b o => W.cell? ⟨b, o, none⟩, n0 := W.heap.size, w0 := W }

theorem Rel.start {E : Env} {W : World} (hg : ∀ g, VR (K.start W) (E.G g) (.pointer (some ⟨g, 0, none⟩))) : Rel E (K.start W) (fun _ => none) W :=
  { dom := fun id B h => by cases h
    inj := fun id id' L L' h => by cases h
    fzw := fun b o v h => h
    sep := fun id L o h => by cases h
    bnd := ⟨0, fun _ _ => rfl⟩
    bel := Below.refl _ _
    n0 := Nat.le_refl _
    glob := hg }

theorem law_calls {E : Env} {f : FuncId} {args : List AV} {cargs : Array Value} {W : World} (hg : ∀ g, VR (K.start W) (E.G g) (.pointer (some ⟨g, 0, none⟩)))
    (h : ACalls E f args (fun _ => none) fun x _ => x = .ret (.bool true)) (hargs : VRs (K.start W) args cargs.toList) :
    Calls E.P f cargs W fun e W' => e = .returned (.bool true) ∧ Below W.heap.size W W' := by
  refine (callsIn_wide (n := 0)).1 (CallsIn.mono (h _ _ _ (Rel.start hg) hargs) ?_)
  rintro e w' ⟨κ', x, st', hle, hR, he, rfl⟩
  obtain ⟨cv, rfl, hv⟩ := he
  simp only [VR] at hv
  subst hv
  have hb := hR.bel
  rw [hle.n0, hle.w0] at hb
  exact ⟨rfl, hb⟩

theorem glob_nil {W : World} (g : Nat) : VR (K.start W) (.fptr []) (.pointer (some ⟨g, 0, none⟩)) := by
  simp only [VR]; exact ⟨g, 0, rfl, by simp [VRF]⟩

end Go.Abs
