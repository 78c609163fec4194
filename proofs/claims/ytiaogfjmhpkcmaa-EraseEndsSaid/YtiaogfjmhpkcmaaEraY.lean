/- The walks of an erasing's Begin. Conditions: the erasings can be read. -/
import Derived.Test.YtiaogfjmhpkcmaaEraX
namespace Go.Proofs.Ytiaogfjmhpkcmaa
open Go.RowKit
set_option linter.unusedVariables false
namespace Rg

def RetE (w : World) (x : EraD) (p : RegA) (e : Ending) (w' : World) : Prop := e = .returned (.agg (eraCs x p).toArray) ∧ Below w.heap.size w w'
def RetB (w : World) (x : EraD) (p : RegA) (n : Int) (e : Ending) (w' : World) : Prop := e = .returned (.tuple #[.agg (eraCs x p).toArray, .int .i64 n]) ∧ Below w.heap.size w w'
def newEra (k c : Nat) : EraD := ⟨k, 1, c, zeroReg, 0, ⟨0, 0, 0⟩, 0, 0⟩
theorem newEra_at (w : World) {k c : Nat} (hk : k < 256) (hc : c < 18446744073709551616) : EraAt w (newEra k c) zeroRegA := by
  refine ⟨by unfold U8; simp only [newEra]; omega, by unfold U8 newEra; simp only; omega, by unfold U64; simp only [newEra]; omega, zeroReg_at w, by unfold I64 newEra; simp only; omega, by unfold BalOk newEra; simp only; omega, by unfold U64 newEra; simp only; omega, by unfold U64 newEra; simp only; omega⟩

theorem begin_small (w : World) (k c : Nat) (hk : k < 16) : Calls Try.prog 18 #[.int .u8 (k : Int), .int .u64 (c : Int)] w (RetB w (newEra k c) zeroRegA 0) := by
  have BA := Lib.hid (fun w o => balloc w o)
  have HZ := Lib.hid (heap_alloc_new w (.cells (eraCs zeroEra zeroRegA).toArray 38 (0, 0)))
  unfold RetB
  go_enter Try.func18, Try.ntmps18
  go_wp2_with (refine wpList_store_row rfl 38 (.tmp 4) (.tmp 11) rfl w.heap.size (eraCs (newEra k c) zeroRegA).toArray (by rfl) (by rfl) 38 (eraCs zeroEra zeroRegA).toArray HZ.out era_info rfl (era_one _ _) ?_)
  refine bodyPost_ret (results_cell2 rfl _ _ _ _ _ _ _ rfl (setRow_heap _ _ _ _ _ _ HZ.out) Try.underlying38 rfl era_info) rfl ⟨rfl, ?_⟩
  exact below_row (BA.out w _) (Nat.le_refl _) _
theorem begin_big (w : World) (k c : Nat) (hk : ¬ k < 16) : Calls Try.prog 18 #[.int .u8 (k : Int), .int .u64 (c : Int)] w (RetB w (zeroEra) zeroRegA 1) := by
  have BA := Lib.hid (fun w o => balloc w o)
  have HZ := Lib.hid (heap_alloc_new w (.cells (eraCs zeroEra zeroRegA).toArray 38 (0, 0)))
  have hk' : 16 ≤ k := by omega
  clear hk
  unfold RetB
  go_enter Try.func18, Try.ntmps18
  go_wp2_with (refine wpList_store_row rfl 38 (.tmp 4) (.tmp 8) rfl w.heap.size (eraCs (zeroEra) zeroRegA).toArray (by rfl) (by rfl) 38 (eraCs zeroEra zeroRegA).toArray HZ.out era_info rfl (era_one _ _) ?_)
  refine bodyPost_ret (results_cell2 rfl _ _ _ _ _ _ _ rfl (setRow_heap _ _ _ _ _ _ HZ.out) Try.underlying38 rfl era_info) rfl ⟨rfl, ?_⟩
  exact below_row (BA.out w _) (Nat.le_refl _) _
end Rg
end Go.Proofs.Ytiaogfjmhpkcmaa
