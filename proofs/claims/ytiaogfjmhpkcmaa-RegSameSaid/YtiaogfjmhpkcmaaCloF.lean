/- The walk of reg.Clone. Conditions: the register can be read, and its lists are short. -/
import Derived.Test.YtiaogfjmhpkcmaaCloE
namespace Go.Proofs.Ytiaogfjmhpkcmaa
open Go.RowKit
set_option linter.unusedVariables false
namespace Rg

set_option maxRecDepth 10000 in
set_option maxHeartbeats 1600000 in
theorem regClone_any (w : World) (r : RegD) (p : RegA) (h : RegAt w r p) (hg : greatS r = false) : Calls Try.prog 24 #[.agg (regCs r p).toArray] w (RetR w r) := by
  have BA := Lib.hid (fun w o => balloc w o)
  have LL := Lib.hid (great_lens hg)
  have H := Lib.hid h
  clear h hg
  have P0 := Lib.hid (pair_0 w (.cells (regCs r p).toArray 28 (0, 0)) (.cells (regCs zeroReg zeroRegA).toArray 28 (0, 0)))
  have P1 := Lib.hid (pair_1 w (.cells (regCs r p).toArray 28 (0, 0)) (.cells (regCs zeroReg zeroRegA).toArray 28 (0, 0)))
  unfold RetR
  go_enter Try.func24, Try.ntmps24
  go_wp2_with fail
  refine code_gen ?_
  intro w2 hw2
  have z0 : Hid (w2.heap[w.heap.size]? = some (.cells (regCs r p).toArray 28 (0, 0))) := Lib.hid (by rw [hw2]; exact P0.out)
  have z1 : Hid (w2.heap[w.heap.size + 1]? = some (.cells (regCs zeroReg zeroRegA).toArray 28 (0, 0))) := Lib.hid (by rw [hw2]; exact P1.out)
  have b2 : Hid (Below w.heap.size w w2) := Lib.hid (by rw [hw2]; exact bthen (BA.out w _) (BA.out _ _))
  have hs2 : w2.heap.size = w.heap.size + 2 := by rw [hw2]; simp
  clear hw2 P0 P1
  have f3 := fun n : ExtW w2.heap.size w2.drew => cell_up (bthen (below_dr w2 1) n.h) (cell_of z0.out 3 (v := .slice p.va r.vars.length p.vc) rfl)
  have f4 := fun n : ExtW w2.heap.size w2.drew => cell_up (bthen (below_dr w2 1) n.h) (cell_of z0.out 4 (v := .slice p.da r.done.length p.dc) rfl)
  have f5 := fun n : ExtW w2.heap.size w2.drew => cell_up (bthen (below_dr w2 1) n.h) (cell_of z0.out 5 (v := .slice p.oa r.out.length p.oc) rfl)
  have f7 := fun n : ExtW w2.heap.size w2.drew => cell_up (bthen (below_dr w2 1) n.h) (cell_of z0.out 7 (v := .slice p.ma r.marks.length p.mc) rfl)
  refine wp_region_upt [(0, false), (1, false), (3, false), (4, false), (6, false), (7, false), (9, false), (10, false), (2, true), (12, false), (5, true), (8, true), (11, true)] [13, 14, 15, 16, 17, 18, 19] w2.heap.size (by kernel_rfl) (by kernel_rfl) ?_
  repeat
    refine wpUp_pure (by rfl) (by rfl) (by rfl) (fun K hK => ?_)
    conv => arg 2; whnf
    go_big_quiet_op
    refine hK _ ?_
    clear hK K
  have bd := Lib.hid (bthen b2.out (below_dr w2 1))
  have hb2 := Lib.hid (below_dr w2 1)
  clear f3 f4 f5 f7
  refine wpUp_call (by rfl) (by rfl) (Nat.le_refl _) (fun K hK => ?_)
  conv => arg 2; whnf
  go_simp
  refine (cloneInts _ p.va p.vc r.vars (H.out.vars.mono bd.out) LL.out.1).mono ?_
  rintro e w3 ⟨⟨va, vc, rfl, ov⟩, b3⟩
  refine hK _ _ b3 ?_
  clear hK K
  repeat
    refine wpUp_pure (by rfl) (by rfl) (by rfl) (fun K hK => ?_)
    conv => arg 2; whnf
    go_big_quiet_op
    refine hK _ ?_
    clear hK K
  refine wpUp_call (by rfl) (by rfl) (Nat.le_refl _) (fun K hK => ?_)
  conv => arg 2; whnf
  go_simp
  refine (cloneCells _ p.oa p.oc r.out (H.out.out.mono (bthen bd.out b3)) LL.out.2.2.1).mono ?_
  rintro e w4 ⟨⟨oa, oc, rfl, oo⟩, b4⟩
  refine hK _ _ b4 ?_
  clear hK K
  refine wpUp_call (by rfl) (by rfl) (Nat.le_refl _) (fun K hK => ?_)
  conv => arg 2; whnf
  go_simp
  refine (cloneMarks _ p.ma p.mc r.marks (H.out.marks.mono (bthen (bthen bd.out b3) b4)) LL.out.2.2.2.1).mono ?_
  rintro e w5 ⟨⟨ma, mc, rfl, om⟩, b5⟩
  refine hK _ _ b5 ?_
  clear hK K
  refine wpUp_call (by rfl) (by rfl) (Nat.le_refl _) (fun K hK => ?_)
  conv => arg 2; whnf
  go_simp
  refine (cloneDonesB _ w.heap.size p.da p.dc r.done (Rows.mono (fun _ _ h => h.mono (bthen (bthen (bthen bd.out b3) b4) b5)) (bthen (bthen (bthen bd.out b3) b4) b5) (dones_b H.out.done)) LL.out.2.1).mono ?_
  rintro e w6 ⟨⟨da, dc, rfl, od⟩, b6⟩
  refine hK _ _ b6 ?_
  clear hK K
  have Y0 := block_up b6 (block_up b5 (block_up b4 (block_up b3 (block_up hb2.out z0.out))))
  have Y1 := Lib.hid (block_up b6 (block_up b5 (block_up b4 (block_up b3 (block_up hb2.out z1.out)))))
  have b26 := Lib.hid (bthen (bthen (bthen (bthen bd.out b3) b4) b5) b6)
  have c3 := cell_of Y0 3 (v := .slice p.va r.vars.length p.vc) rfl
  have c4 := cell_of Y0 4 (v := .slice p.da r.done.length p.dc) rfl
  have c5 := cell_of Y0 5 (v := .slice p.oa r.out.length p.oc) rfl
  have c7 := cell_of Y0 7 (v := .slice p.ma r.marks.length p.mc) rfl
  have r3 := froz_of Y0 3
  have r4 := froz_of Y0 4
  have r5 := froz_of Y0 5
  have r7 := froz_of Y0 7
  refine wpUp_tail ?_
  iterate 7
    refine wpTail_step (by rfl) (by rfl) (fun K hK => ?_)
    conv => arg 2; whnf
    go_simp
    refine hK _ _ ?_
    clear hK K
  clear c3 c4 c5 c7 r3 r4 r5 r7
  refine tail_gen ?_
  intro w7 hw7
  have I0 : Hid (CloI w w7 r va vc da dc oa oc ma mc 0) := by
    refine Lib.hid ?_
    rw [hw7]
    have hs := hs2
    have s3 : w2.heap.size ≤ w3.heap.size := b3.size
    have s4 := b4.size
    have s5 := b5.size
    have s6 := b6.size
    have G1 := heap_setCell_same w6 w.heap.size 3 _ _ (.slice va r.vars.length vc) Y0
    have G2 := heap_setCell_same _ w.heap.size 5 _ _ (.slice oa r.out.length oc) G1
    have G3 := heap_setCell_same _ w.heap.size 7 _ _ (.slice ma r.marks.length mc) G2
    have G4 := heap_setCell_same _ w.heap.size 4 _ _ (.slice da r.done.length dc) G3
    have ov6 := ownRows_base (ownNum_mono ov (bthen (bthen b4 b5) b6)) (show w.heap.size + 2 ≤ w2.heap.size by omega)
    have oo6 := ownRows_base (OwnRows.mono (R := CellR) (w := w4) (w' := w6) (fun _ _ h => h) (bthen b5 b6) oo) (show w.heap.size + 2 ≤ w3.heap.size by omega)
    have om6 := ownRows_base (OwnRows.mono (R := MarkR) (w := w5) (w' := w6) (fun _ _ h => h) b6 om) (show w.heap.size + 2 ≤ w4.heap.size by omega)
    have od6 := ownRows_base od (show w.heap.size + 2 ≤ w5.heap.size by omega)
    refine ⟨G4, ?_, ?_, ?_, ?_, ?_, ?_⟩
    · rw [heap_setCell_other _ _ _ _ (by simp), heap_setCell_other _ _ _ _ (by simp), heap_setCell_other _ _ _ _ (by simp), heap_setCell_other _ _ _ _ (by simp)]
      exact Y1.out
    · exact ownRows_set (ownRows_set (ownRows_set (ownRows_set ov6 Y0 (by decide) _ _ (fun _ _ h => h)) G1 (by decide) _ _ (fun _ _ h => h)) G2 (by decide) _ _ (fun _ _ h => h)) G3 (by decide) _ _ (fun _ _ h => h)
    · exact ownRows_set (ownRows_set (ownRows_set (ownRows_set oo6 Y0 (by decide) _ _ (fun _ _ h => h)) G1 (by decide) _ _ (fun _ _ h => h)) G2 (by decide) _ _ (fun _ _ h => h)) G3 (by decide) _ _ (fun _ _ h => h)
    · exact ownRows_set (ownRows_set (ownRows_set (ownRows_set om6 Y0 (by decide) _ _ (fun _ _ h => h)) G1 (by decide) _ _ (fun _ _ h => h)) G2 (by decide) _ _ (fun _ _ h => h)) G3 (by decide) _ _ (fun _ _ h => h)
    · exact TabK.start (B := w.heap.size) (ownRows_set (ownRows_set (ownRows_set (ownRows_set od6 Y0 (by decide) _ _ (fun _ _ h => h.set (Nat.le_refl _) _ _)) G1 (by decide) _ _ (fun _ _ h => h.set (Nat.le_refl _) _ _)) G2 (by decide) _ _ (fun _ _ h => h.set (Nat.le_refl _) _ _)) G3 (by decide) _ _ (fun _ _ h => h.set (Nat.le_refl _) _ _)) (by omega)
    · exact below_set (below_set (below_set (below_set b26.out (Nat.le_refl _) _ _) (Nat.le_refl _) _ _) (Nat.le_refl _) _ _) (Nat.le_refl _) _ _
  clear hw7 Y0 Y1 b26 ov oo om od b3 b4 b5 b6 z0 z1 b2 bd hb2 hs2
  refine wpTail_nil ?_
  have cl := cell_of I0.out.blk 4 (v := .slice da r.done.length dc) rfl
  have hn50 := LL.out.2.1
  go_wp2_with fail
  clear cl
  go_loopw [23] (fun i wr => ∃ k : Nat, k ≤ r.done.length ∧ i = .int .i64 k ∧ Hid (CloI w wr r va vc da dc oa oc ma mc k)) (fun i _ => r.done.length - (intOf i).toNat)
  case atStart => exact ⟨0, Nat.zero_le _, rfl, I0⟩
  case round =>
    clear I0
    obtain ⟨k, hk, rfl, I⟩ := hrel
    by_cases hlt : k < r.done.length
    · obtain ⟨g, cur, pk, rfl, hbg, hgl, e3, hcell, hrep, step⟩ := (I.out.up (below_dr wr 1)).tab.step hlt
      have f4 := fun n : ExtW wr.heap.size wr.drew => cell_up n.h (cell_of (I.out.up (below_dr wr 1)).blk 4 (v := .slice (some ⟨g, 0, none⟩) r.done.length dc) rfl)
      have f5 := fun n : ExtW wr.heap.size wr.drew => cell_up n.h hcell
      have STEP := Lib.hid step
      have HREP := Lib.hid hrep
      have E3 := Lib.hid e3
      have HC := Lib.hid hcell
      clear step hrep e3 hcell
      have hv50 := LL.out.2.2.2.2 _ (List.getElem_mem hlt)
      have i0 : (0 : Int) ≤ (k : Int) := by omega
      have i1 : (k : Int) < (r.done.length : Int) := by omega
      go_wp2_with fail
      refine wp_region_upt [(0, false), (1, false), (2, false), (3, false), (4, false), (5, false), (6, false), (7, false), (8, false), (9, false), (10, true)] [11, 12, 13, 14] wr.heap.size (by kernel_rfl) (by kernel_rfl) ?_
      repeat
        refine wpUp_pure (by rfl) (by rfl) (by rfl) (fun K hK => ?_)
        conv => arg 2; whnf
        go_big_quiet_op
        refine hK _ ?_
        clear hK K
      refine wpUp_call (by rfl) (by rfl) (Nat.le_refl _) (fun K hK => ?_)
      conv => arg 2; whnf
      go_simp
      refine (cloneInts _ pk.a pk.c _ HREP.out.2.2.2.1 hv50).mono ?_
      rintro e w9 ⟨⟨a', c', rfl, oa'⟩, b9⟩
      refine hK _ _ b9 ?_
      clear hK K f4 f5
      have e9 := block_up b9 E3.out
      have c9 := cell_up b9 HC.out
      have r9 := froz_of e9 (k * 6 + 5)
      have I9 := Lib.hid (((I.out.up (below_dr wr 1)).up b9).set e9 hbg (k * 6 + 5) _ (STEP.out w9 a' c' b9 oa'))
      clear STEP HREP E3 HC oa' e9 I b9
      refine wpUp_tail ?_
      iterate 4
        refine wpTail_step (by rfl) (by rfl) (fun K hK => ?_)
        conv => arg 2; whnf
        go_simp
        refine hK _ _ ?_
        clear hK K
      refine wpTail_nil ?_
      go_wp2_with fail
      go_roundw
      case rel => exact ⟨k + 1, by omega, by go_num, I9⟩
      case measure => simp [intOf]; omega
    · obtain rfl : k = r.done.length := by omega
      go_wp2_with (first
        | (refine wpList_load_row rfl 28 (.tmp 1) rfl w.heap.size rfl 28 (regCs r ⟨va, vc, da, dc, oa, oc, ma, mc⟩).toArray _ _ I.out.blk Try.underlying28 rfl reg_info ?_)
        | (refine wpList_store_row rfl 28 (.tmp 2) (.tmp 41) rfl (w.heap.size + 1) (regCs r ⟨va, vc, da, dc, oa, oc, ma, mc⟩).toArray (by rfl) (by rfl) 28 (regCs zeroReg zeroRegA).toArray I.out.res reg_info rfl (reg_one _ _) ?_))
      refine bodyPost_ret (results_cell_row rfl _ _ _ _ (regCs r ⟨va, vc, da, dc, oa, oc, ma, mc⟩).toArray _ _ rfl (setRow_heap _ _ _ (regCs r ⟨va, vc, da, dc, oa, oc, ma, mc⟩).toArray _ _ I.out.res) Try.underlying28 rfl reg_info) rfl ⟨⟨⟨va, vc, da, dc, oa, oc, ma, mc⟩, rfl, ?_⟩, ?_⟩
      · exact (RegOwn.of H.out.kind H.out.inc H.out.state H.out.last I.out.vars I.out.out I.out.marks I.out.tab).from (fun b hb _ => setRow_other _ _ _ _ (by omega)) |>.base (by omega)
      · exact below_row I.out.below (by omega) _
end Rg
end Go.Proofs.Ytiaogfjmhpkcmaa
