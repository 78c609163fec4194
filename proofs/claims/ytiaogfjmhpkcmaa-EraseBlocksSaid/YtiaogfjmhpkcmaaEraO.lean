/- Arguments that are registers, marks, erasings, answers, opened. No condition. -/
import Derived.Test.YtiaogfjmhpkcmaaEraD
namespace Go.Proofs.Ytiaogfjmhpkcmaa
open Go.ChangeShapes Go.WideShapes Go.ChangeAt Go.RowKit Go.Deep
set_option linter.unusedVariables false
namespace Rg

section
variable {H : Type} {enc : TypeId × Value → H} {W : World} {spare : Nat → Bool} {b2 : Nat} {held : Bool}
set_option maxRecDepth 100000 in
theorem reg_arg {v : Value} {d : DataW H} {ps : List MemPlace} {base : Nat} (hval : Value.okWide Try.prog W .any base 28 v) (h : DataW.Trod enc Try.prog W b2 spare held 28 v d ps) :
    ∃ (r : RegD) (p : RegA), v = .agg (regCs r p).toArray ∧ RegAt W r p := by
  obtain ⟨cs, rfl, hsz⟩ := okWide_struct Try.underlying28 hval
  obtain ⟨fuel, hf⟩ := h
  obtain ⟨r, p, e, h'⟩ := reg_open _ _ _ hf
  simp [Value.cells] at e
  exact ⟨r, p, by rw [← e], h'⟩
set_option maxRecDepth 100000 in
theorem mark_arg {v : Value} {d : DataW H} {ps : List MemPlace} {base : Nat} (hval : Value.okWide Try.prog W .any base 30 v) (h : DataW.Trod enc Try.prog W b2 spare held 30 v d ps) :
    ∃ m : MarkD, v = .agg #[.int .u8 (m.source : Int), .int .u64 (m.inc : Int), .int .u64 (m.cell : Int)] ∧ U8 m.source ∧ U64 m.inc ∧ U64 m.cell := by
  obtain ⟨cs, rfl, hsz⟩ := okWide_struct Try.underlying30 hval
  obtain ⟨fuel, hf⟩ := h
  obtain ⟨m, e, h'⟩ := mark_open _ _ _ hf
  have e2 : cs.toList = [.int .u8 (m.source : Int), .int .u64 (m.inc : Int), .int .u64 (m.cell : Int)] := by simpa [Value.cells] using e
  exact ⟨m, by rw [← Array.toArray_toList (xs := cs), e2], h'⟩
set_option maxRecDepth 100000 in
theorem era_arg {v : Value} {d : DataW H} {ps : List MemPlace} {base : Nat} (hval : Value.okWide Try.prog W .any base 38 v) (h : DataW.Trod enc Try.prog W b2 spare held 38 v d ps) :
    ∃ (x : EraD) (p : RegA), v = .agg (eraCs x p).toArray ∧ EraAt W x p := by
  obtain ⟨cs, rfl, hsz⟩ := okWide_struct Try.underlying38 hval
  obtain ⟨fuel, hf⟩ := h
  obtain ⟨r, p, e, h'⟩ := era_open _ _ _ hf
  simp [Value.cells] at e
  exact ⟨r, p, by rw [← e], h'⟩
end
end Rg
end Go.Proofs.Ytiaogfjmhpkcmaa
