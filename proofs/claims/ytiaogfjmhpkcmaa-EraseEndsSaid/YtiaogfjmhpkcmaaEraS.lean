/- The walk of the document's Same upon one erasing. Conditions: the erasings can be read. -/
import Derived.Test.YtiaogfjmhpkcmaaEraD
import Derived.Test.YtiaogfjmhpkcmaaSameG
namespace Go.Proofs.Ytiaogfjmhpkcmaa
open Go.RowKit
set_option linter.unusedVariables false
namespace Rg

theorem rsame_refl (w : World) (x : EraD) (p q : RegA) (h : EraAt w x p) (h' : EraAt w x q) :
    Calls Try.prog 16 #[.agg (eraCs x p).toArray, .agg (eraCs x q).toArray] w (RetBo w true) := by
  have BA := Lib.hid (fun w o => balloc w o)
  have SM := Lib.hid (fun w' (b : Below w.heap.size w w') => (show Calls Try.prog 25 #[.agg (regCs x.reg p).toArray, .agg (regCs x.reg q).toArray] w' (RetBo w' true) from by have H := same_any w' x.reg x.reg p q (h.reg.mono b) (h'.reg.mono b); rwa [decide_eq_true rfl] at H))
  have k0 : ((x.key : Int) == x.key) = true := beq_refl_i _
  have k1 : ((x.phase : Int) == x.phase) = true := beq_refl_i _
  have k2 : ((x.conf : Int) == x.conf) = true := beq_refl_i _
  have k3 : (x.at_ == x.at_) = true := beq_refl_i _
  have k4 : ((x.b.c : Int) == x.b.c) = true := beq_refl_i _
  have k5 : ((x.b.n : Int) == x.b.n) = true := beq_refl_i _
  have k6 : ((x.b.l : Int) == x.b.l) = true := beq_refl_i _
  have k7 : ((x.visited : Int) == x.visited) = true := beq_refl_i _
  have k8 : ((x.erased : Int) == x.erased) = true := beq_refl_i _
  unfold eraCs
  clear h h'
  go_enter Try.func16, Try.ntmps16
  go_wp2_with fail
  refine (SM.out _ (bthen (BA.out w _) (BA.out _ _))).mono ?_
  rintro e w1 ⟨rfl, b1⟩
  go_wp2_with fail
  go_ret
  exact retBo rfl (bthen (bthen (BA.out w _) (BA.out _ _)) b1)
end Rg
end Go.Proofs.Ytiaogfjmhpkcmaa
