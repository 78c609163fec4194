/- The walk of the document's example. No condition. -/
import Derived.Test.YtiaogfjmhpkcmaaEraT
import Derived.Test.YtiaogfjmhpkcmaaEraS
namespace Go.Proofs.Ytiaogfjmhpkcmaa
open Go.RowKit
set_option linter.unusedVariables false
namespace Rg

section
variable {P : Program}
theorem wpList_load_wanted {ops : Array Oper} {rest : List Oper} {o : Oper} {a : Act} {w : World} {Q : Exit → Act → World → Prop} (hgd : Region.wanted o (yielded ops a.tmps) = true) (ty : TypeId) (x : Operand) (ho : o.op = .load ty x)
    (g : Nat) (hx : a.eval x = .pointer (some ⟨g, 0, none⟩)) (t : TypeId) (cs : Array Value) (fr : Nat × Nat) (d : TypeDesc) (hg : w.heap[g]? = some (.cells cs t fr))
    (hu : P.underlying ty = some d) (hd : (match d with | .struct _ | .array _ _ => true | _ => false) = true) (hi : (P.info? ty).map (·.size) = some cs.size)
    (h : wpList P ops Q rest (a.put o.dst (.agg cs)) w) : wpList P ops Q (o :: rest) a w :=
  wpList_wanted w hgd fun _ hK => wp_load_row ty x ho g hx t cs fr d hg hu hd hi (hK _ _ h)
end

def exAns : AnsD := ⟨0, zeroOp, ⟨0, 0, 0, []⟩, ⟨1, 1, 0, [], [], [], 0, []⟩, ⟨0, 0, 0⟩⟩
theorem exAns_at (w : World) : AnsAt w exAns ⟨none, 0⟩ zeroRegA := by
  refine ⟨⟨by unfold I64; decide, by unfold U64; decide, by unfold I64; decide, Rows.nil _ _ _ _, by simp [exAns], by decide⟩, ?_, by unfold BalOk; decide⟩
  refine ⟨by unfold U8; decide, by unfold U64; decide, by unfold I64; decide, by unfold U64; decide, Rows.nil _ _ _ _, Rows.nil _ _ _ _, Rows.nil _ _ _ _, Rows.nil _ _ _ _, ?_, ?_, ?_, ?_⟩ <;> (simp [exAns, zeroRegA])

theorem awake_any (w : World) : Calls Try.prog 11 #[] w (RetBo w true) := by
  have BA := Lib.hid (fun w o => balloc w o)
  have BG := Lib.hid (fun w' => begin_small w' 3 0 (by omega))
  have WN := Lib.hid (fun w' => wants_any w' (newEra 3 0) zeroRegA (newEra_at w' (by omega) (by omega)))
  have TL := Lib.hid (fun w' => told_live w' (newEra 3 0) zeroRegA exAns ⟨none, 0⟩ zeroRegA (newEra_at w' (by omega) (by omega)) (exAns_at w') rfl rfl rfl)
  have SM := Lib.hid (fun w' => rsame_refl w' zeroEra zeroRegA zeroRegA (zeroEra_at w') (zeroEra_at w'))
  have hw : (wantsS (newEra 3 0)).2.2 = true := by decide
  unfold RetE RetW RetB at *
  generalize wantsS (newEra 3 0) = want at *
  go_enter Try.func11, Try.ntmps11
  go_wp2_with fail
  refine (BG.out _).mono ?_
  rintro e w1 ⟨rfl, b1⟩
  go_wp2_with (first
    | (refine wpList_store_gen rfl 38 (.tmp 1) (.tmp 8) rfl w1.heap.size (eraCs (newEra 3 0) zeroRegA).toArray (by rfl) (by rfl) 38 (eraCs zeroEra zeroRegA).toArray (heap_alloc_new w1 _) era_info rfl (era_one _ _) ?_
       intro w2 hw2
       have b2 := Lib.hid (show Below w1.heap.size w1 w2 by rw [hw2]; exact below_row (BA.out w1 _) (Nat.le_refl _) _)
       have z1 := Lib.hid (show w2.heap[w1.heap.size]? = some (.cells (eraCs (newEra 3 0) zeroRegA).toArray 38 (0, 0)) by rw [hw2]; exact setRow_heap _ _ _ _ _ _ (heap_alloc_new w1 (.cells (eraCs zeroEra zeroRegA).toArray 38 (0, 0))))
       clear hw2)
    | (refine wpList_load_row rfl 38 (.tmp 1) rfl w1.heap.size rfl 38 (eraCs (newEra 3 0) zeroRegA).toArray _ _ z1.out Try.underlying38 rfl era_info ?_))
  refine (WN.out _).mono ?_
  rintro e w3 ⟨rfl, b3⟩
  go_wp2_with (first
    | (refine wpList_store_gen rfl 40 (.tmp 3) (.tmp 13) rfl w3.heap.size (opCs want.1).toArray (by rfl) (by rfl) 40 (opCs zeroOp).toArray (heap_alloc_new w3 _) op_info rfl (op_one _) ?_
       intro w4 hw4
       have b4 := Lib.hid (show Below w3.heap.size w3 w4 by rw [hw4]; exact below_row (BA.out w3 _) (Nat.le_refl _) _)
       have z4 := Lib.hid (block_up b4.out (block_up b3 z1.out))
       clear hw4)
    | (refine wpList_load_wanted (by rfl) 38 (.tmp 1) rfl w1.heap.size rfl 38 (eraCs (newEra 3 0) zeroRegA).toArray _ _ z4.out Try.underlying38 rfl era_info ?_))
  refine (TL.out _).mono ?_
  rintro e w5 ⟨rfl, b5⟩
  go_wp2_with fail
  refine (SM.out _).mono ?_
  rintro e w6 ⟨rfl, b6⟩
  go_wp2_with fail
  go_ret
  exact retBo rfl (bthen (bthen (bthen (bthen (bthen b1 b2.out) b3) b4.out) b5) b6)
end Rg
end Go.Proofs.Ytiaogfjmhpkcmaa
