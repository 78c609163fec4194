/- What the walks of the engine's laws have in common. Conditions: what is handed in can be read. -/
import Derived.Test.YtdpmfjbhadapiaaEnS
import Derived.Test.YtdpmfjbhadapiaaEnP
import Derived.Test.YtdpmfjbhadapiaaSameR
namespace Go.Proofs.Ytdpmfjbhadapiaa
open Go.RowKit
set_option linter.unusedVariables false
set_option linter.unusedSimpArgs false
namespace En
open Sy (RetV RetM Sub)
open Rg (eqT eqF U8 U64 I64 RegD RegA RegAt regCs DoneD MarkD CellD OpD OpOk opCs RepD RepA RepAt repCs greatS zeroReg zeroRegA zeroReg_at May06)
open Tb (TabD TabAt tabCs)
theorem right_parts {t : TabD} {r : RegD} {o : OpD} {count : Nat} (h : Right07 t r o count) : MayO o ∧ PG t r ∧ Tb.mayS t = true ∧ count ≠ 0 := ⟨h.1, ⟨h.2.1, h.2.2.2.2⟩, h.2.2.1, h.2.2.2.1⟩
theorem tab_nat {t : TabD} (h : Tb.mayS t = true) : ∃ n : Nat, t.vars = (n : Int) := ⟨t.vars.toNat, by have := tab_of h; omega⟩
theorem sameT (w : World) (x : RegD) (p q : RegA) (hx : RegAt w x p) (hy : RegAt w x q) : Calls Try.prog 27 #[.agg (regCs x p).toArray, .agg (regCs x q).toArray] w (RetV w (.bool true)) := by
  have G := Rg.same_any w x x p q hx hy
  rw [decide_eq_true rfl] at G
  exact G
theorem sameRepT (w : World) (x : RepD) (p q : RepA) (hx : RepAt w x p) (hy : RepAt w x q) : Calls Try.prog 28 #[.agg (repCs x p).toArray, .agg (repCs x q).toArray] w (RetV w (.bool true)) := by
  have G := Rg.sameRep_any w x x p q hx hy
  rw [decide_eq_true rfl] at G
  exact G
theorem no_done {w : World} {r : RegD} {va vc da dc oa oc ma mc} (h : RegAt w r ⟨va, vc, da, dc, oa, oc, ma, mc⟩) : RegAt w { r with done := [] } ⟨va, vc, none, 0, oa, oc, ma, mc⟩ :=
  ⟨h.kind, h.inc, h.state, h.last, h.vars, Rows.nil _ _ _ _, h.out, h.marks, h.cv, by simp, h.co, h.cm⟩
end En
end Go.Proofs.Ytdpmfjbhadapiaa
