/- The walks of an erasing's Wants where it wants. Conditions: the erasing can be read. -/
import Derived.Test.YtiaogfjmhpkcmaaEraW
namespace Go.Proofs.Ytiaogfjmhpkcmaa
open Go.RowKit
set_option linter.unusedVariables false
namespace Rg

theorem wants_13 (w : World) (x : EraD) (p : RegA) (h : EraAt w x p) (h13 : x.phase = 1 ∨ x.phase = 3) :
    Calls Try.prog 14 #[.agg (eraCs x p).toArray] w (RetW w ({ zeroOp with kind := 7, key := x.key }, decide (x.phase = 3), true)) := by
  have BA := Lib.hid (fun w o => balloc w o)
  have t3 : ((x.phase : Int) == 3) = decide (x.phase = 3) := by rw [Bool.eq_iff_iff]; simp; omega
  have t1 : ((x.phase : Int) == 1) = decide (x.phase = 1) := by rw [Bool.eq_iff_iff]; simp; omega
  unfold RetW opCs zeroOp eraCs
  clear h
  rcases h13 with h1 | h1
  · rw [decide_eq_true (show x.phase = 1 by omega)] at t1
    rw [decide_eq_false (show ¬ x.phase = 3 by omega)] at t3
    rw [decide_eq_false (show ¬ x.phase = 3 by omega)]
    clear h1
    go_enter Try.func14, Try.ntmps14
    go_wp2_with fail
    go_region
    go_wp2_with fail
    refine bodyPost_ret (v := .tuple #[.agg (opCs { zeroOp with kind := 7, key := x.key }).toArray, .bool false, .bool true]) (by simp [results, Try.results14, go_sem, opCs, zeroOp]) rfl ⟨rfl, ?_⟩
    exact bthen (bthen (BA.out w _) (BA.out _ _)) (below_dr _ 1)
  · rw [decide_eq_false (show ¬ x.phase = 1 by omega)] at t1
    rw [decide_eq_true (show x.phase = 3 by omega)] at t3
    rw [decide_eq_true (show x.phase = 3 by omega)]
    clear h1
    go_enter Try.func14, Try.ntmps14
    go_wp2_with fail
    go_region
    go_wp2_with fail
    refine bodyPost_ret (v := .tuple #[.agg (opCs { zeroOp with kind := 7, key := x.key }).toArray, .bool true, .bool true]) (by simp [results, Try.results14, go_sem, opCs, zeroOp]) rfl ⟨rfl, ?_⟩
    exact bthen (bthen (BA.out w _) (BA.out _ _)) (below_dr _ 1)
end Rg
end Go.Proofs.Ytiaogfjmhpkcmaa
