/- The walk of RegSame, whole; replies as arguments. Conditions: the registers and the replies can be read. -/
import Derived.Test.YtiaogfjmhpkcmaaRegT
import Derived.Test.YtiaogfjmhpkcmaaEraO
namespace Go.Proofs.Ytiaogfjmhpkcmaa
open Go.ChangeShapes Go.WideShapes Go.ChangeAt Go.RowKit Go.Deep
set_option linter.unusedVariables false
namespace Rg
open Sy (RetV RetM Sub)
theorem retBo_of {w : World} {b : Bool} {e : Ending} {w' : World} (h : RetV w (.bool b) e w') : RetBo w b e w' := h
theorem regSameW (w : World) (a : RegD) (p : RegA) (ha : RegAt w a p) (b : RegD) (q : RegA) (hb : RegAt w b q) (x : RepD) (px : RepA) (hx : RepAt w x px) (y : RepD) (py : RepA) (hy : RepAt w y py) :
    Calls Try.prog 7 #[.agg (regCs a p).toArray, .agg (regCs b q).toArray, .agg (repCs x px).toArray, .agg (repCs y py).toArray] w (RetBo w true) := by
  suffices K : Calls Try.prog 7 #[.agg (regCs a p).toArray, .agg (regCs b q).toArray, .agg (repCs x px).toArray, .agg (repCs y py).toArray] w (RetV w (.bool true)) from K.mono fun e w' h => retBo_of h
  cases h1 : greatS a with
  | true => exact regSame_far w ha hb hx hy (.inl h1)
  | false =>
    cases h2 : greatS b with
    | true => exact regSame_far w ha hb hx hy (.inr (.inl ⟨h1, h2⟩))
    | false =>
      by_cases h3 : x.vars.length ≤ 50
      · by_cases h4 : y.vars.length ≤ 50
        · exact regSame_near w ha hb hx hy h1 h2 h3 h4
        · exact regSame_far w ha hb hx hy (.inr (.inr (.inr ⟨h1, h2, h3, by omega⟩)))
      · exact regSame_far w ha hb hx hy (.inr (.inr (.inl ⟨h1, h2, by omega⟩)))
section
variable {H : Type} {enc : TypeId × Value → H} {W : World} {spare : Nat → Bool} {b2 : Nat} {held : Bool}
set_option maxRecDepth 100000 in
theorem rep_arg {v : Value} {d : DataW H} {ps : List MemPlace} {base : Nat} (hval : Value.okWide Try.prog W .any base 43 v) (h : DataW.Trod enc Try.prog W b2 spare held 43 v d ps) :
    ∃ (r : RepD) (p : RepA), v = .agg (repCs r p).toArray ∧ RepAt W r p := by
  obtain ⟨cs, rfl, hsz⟩ := okWide_struct Try.underlying43 hval
  obtain ⟨fuel, hf⟩ := h
  obtain ⟨r, p, e, h'⟩ := rep_open _ _ _ hf
  simp [Value.cells] at e
  exact ⟨r, p, by rw [← e], h'⟩
end
end Rg
end Go.Proofs.Ytiaogfjmhpkcmaa
