/- A truth handed back; the contracts of closures. Over any program. No condition. -/
import Derived.Test.YtohhjbfkgokopaaDoorTab
import Derived.Test.YtohhjbfkgokopaaDoorSyL
import Derived.Test.YtohhjbfkgokopaaDoorFacts
namespace Go.Proofs.YtohhjbfkgokopaaDoor
open Go.RowKit
set_option linter.unusedVariables false
namespace Rg
open Sy (RetV RetM Sub)
theorem retBb {E : Sy.Ext} {W m0 m w : World} {bs : List Sy.Blk} (F : Sy.MemE E ⟨W, [], m0⟩ m bs w) {b b' : Bool} (h : b = b') : RetV W (.bool b) (.returned (.bool b')) w := by subst h; exact F.retV _
/-- the closure answers p -/
def ClosB {α : Type} (R : World → List Value → α → Prop) (w : World) (f : FuncId) (ks : List Value) (l : List α) (p : α → Bool) : Prop := ∀ w' m, Sub w m → Sub m w' → ∀ d ∈ l, ∀ cs, R m cs d → Calls Tryd.prog f ([] ++ [Value.agg cs.toArray] ++ ks).toArray w' (RetV w' (.bool (p d)))
def ClosN {α : Type} (R : World → List Value → α → Prop) (w : World) (f : FuncId) (ks : List Value) (l : List α) (p : α → Nat) : Prop := ∀ w' m, Sub w m → Sub m w' → ∀ d ∈ l, ∀ cs, R m cs d → Calls Tryd.prog f ([] ++ [Value.agg cs.toArray] ++ ks).toArray w' (RetV w' (.int .u64 (p d : Int)))
end Rg
end Go.Proofs.YtohhjbfkgokopaaDoor
