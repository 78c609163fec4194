/- The walk of an erasing's Wants at a mark, and Wants whole. Conditions: the erasing can be read. -/
import Derived.Test.YtiaogfjmhpkcmaaEraX
namespace Go.Proofs.Ytiaogfjmhpkcmaa
open Go.RowKit
set_option linter.unusedVariables false
namespace Rg

/-- a call behind two new blocks leaves the first one's cells -/
theorem own_cell {w w1 : World} {cs : Array Value} {t : TypeId} {o2 : Obj} (b1 : Below ((w.alloc (.cells cs t)).alloc o2).heap.size ((w.alloc (.cells cs t)).alloc o2) w1) (i : Nat) {v : Value} (hv : cs[i]? = some v) : w1.cell? ⟨w.heap.size, i, none⟩ = some v :=
  cell_up b1 (by rw [World.cell?_alloc_past _ _ _ (by simp), World.cell?_alloc_at _ _ _ _ rfl]; exact hv)
theorem own_cell2 {w w1 : World} {o1 : Obj} {cs : Array Value} {t : TypeId} (b1 : Below ((w.alloc o1).alloc (.cells cs t)).heap.size ((w.alloc o1).alloc (.cells cs t)) w1) (i : Nat) {v : Value} (hv : cs[i]? = some v) : w1.cell? ⟨w.heap.size + 1, i, none⟩ = some v :=
  cell_up b1 (by rw [World.cell?_alloc_at _ _ _ _ (by simp)]; exact hv)

theorem marked_split {x : EraD} (h : markedB x = true) : ∃ k : Nat, x.at_ = (k : Int) ∧ k < x.reg.marks.length := by
  have := of_decide_eq_true h
  exact ⟨x.at_.toNat, by omega, by omega⟩

theorem wants_2 (w : World) (x : EraD) (p : RegA) (h : EraAt w x p) (h2 : x.phase = 2) (hm : markedB x = true) :
    Calls Try.prog 14 #[.agg (eraCs x p).toArray] w (RetW w ({ zeroOp with kind := 7, key := (x.reg.marks.getD x.at_.toNat ⟨0, 0, 0⟩).source }, false, true)) := by
  have BA := Lib.hid (fun w o => balloc w o)
  have MK := Lib.hid (fun w' (b : Below w.heap.size w w') => (show Calls Try.prog 38 #[.agg (eraCs x p).toArray] w' (RetBo w' true) from by have H := marked_any w' x p (h.mono b); rwa [hm] at H))
  have t1 : ((x.phase : Int) == 1) = false := by rw [beq_eq_false_iff_ne]; omega
  have t3 : ((x.phase : Int) == 3) = false := by rw [beq_eq_false_iff_ne]; omega
  have t2 : ((x.phase : Int) == 2) = true := by rw [beq_iff_eq]; omega
  obtain ⟨k, hk, hlt⟩ := marked_split hm
  obtain ⟨b, o, cs, ha, hl, hc, ⟨rfl, _⟩, hbl⟩ := Rows.at h.reg.marks k hlt
  have c0 := hc 0 (by simp)
  simp at c0
  have hmx := h.reg.marks.1
  unfold maxLen at hmx
  rw [show x.reg.marks.getD x.at_.toNat ⟨0, 0, 0⟩ = x.reg.marks[k] from by rw [hk]; simp [List.getD, hlt]]
  clear hc hl hbl h h2 hm
  unfold RetW
  generalize hd : ({ zeroOp with kind := 7, key := x.reg.marks[k].source } : OpD) = od
  generalize x.reg.marks[k] = d at *
  unfold eraCs at *
  rw [ha, hk] at MK
  rw [ha, hk]
  clear ha hk
  go_enter Try.func14, Try.ntmps14
  go_wp2_with fail
  refine (MK.out _ (bthen (BA.out w _) (BA.out _ _))).mono ?_
  rintro e w1 ⟨rfl, b1⟩
  have hz : w1.heap[w.heap.size + 1]? = some (.cells (opCs zeroOp).toArray 40 (0, 0)) := block_up b1 (heap_alloc2_new w _ _)
  have HZ := Lib.hid hz
  have d0 := cell_up (bthen (bthen (BA.out w _) (BA.out _ _)) b1) c0
  have B1 := Lib.hid (bthen (bthen (BA.out w _) (BA.out _ _)) b1)
  have e10 := own_cell b1 10 rfl
  have e11 := own_cell b1 11 rfl
  clear hz b1 c0
  go_wp2_with (refine wpList_store_row rfl 40 (.tmp 2) (.tmp 36) rfl (w.heap.size + 1) (opCs od).toArray (by rfl) (by rw [← hd]; rfl) 40 (opCs zeroOp).toArray HZ.out op_info rfl (op_one _) ?_)
  refine bodyPost_ret (results_cell3 rfl _ _ _ _ _ _ _ rfl (setRow_heap _ _ _ (opCs od).toArray _ _ HZ.out) Try.underlying40 rfl op_info) rfl ⟨rfl, ?_⟩
  exact below_row B1.out (by omega) _

theorem wants_any (w : World) (x : EraD) (p : RegA) (h : EraAt w x p) : Calls Try.prog 14 #[.agg (eraCs x p).toArray] w (RetW w (wantsS x)) := by
  unfold wantsS
  by_cases h13 : x.phase = 1 ∨ x.phase = 3
  · rw [if_pos h13]
    exact wants_13 w x p h h13
  · rw [if_neg h13]
    by_cases h2 : x.phase = 2 ∧ markedB x = true
    · rw [if_pos h2]
      exact wants_2 w x p h h2.1 h2.2
    · rw [if_neg h2]
      exact wants_no w x p h (fun e => h13 (.inl e)) (fun e => h13 (.inr e)) h2
end Rg
end Go.Proofs.Ytiaogfjmhpkcmaa
