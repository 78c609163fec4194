/- The walks of an erasing's Told where all registers are compared. Conditions: the erasing and the answer can be read. -/
import Derived.Test.YtiaogfjmhpkcmaaEraT
import Derived.Test.YtiaogfjmhpkcmaaEqD
import Derived.Test.YtiaogfjmhpkcmaaCloE
namespace Go.Proofs.Ytiaogfjmhpkcmaa
open Go.RowKit
set_option linter.unusedVariables false
namespace Rg

set_option maxRecDepth 10000 in
set_option maxHeartbeats 1600000 in
theorem told_3no (w : World) (x : EraD) (p : RegA) (a : AnsD) (pr : RepA) (q : RegA) (h : EraAt w x p) (ha : AnsAt w a pr q) (h3 : x.phase = 3) (he : a.rep.err = 0) (hsame : ¬ a.reg = x.reg) :
    Calls Try.prog 15 #[.agg (eraCs x p).toArray, .agg (ansCs a pr q).toArray] w (RetE w zeroEra zeroRegA) := by
  have BA := Lib.hid (fun w o => balloc w o)
  have WN := Lib.hid (fun w' (b : Below w.heap.size w w') => wants_any w' x p (h.mono b))
  have H0 := Lib.hid (three_0 w (.cells (eraCs x p).toArray 38 (0, 0)) (.cells (ansCs a pr q).toArray 45 (0, 0)) (.cells (eraCs zeroEra zeroRegA).toArray 38 (0, 0)))
  have H1 := Lib.hid (three_1 w (.cells (eraCs x p).toArray 38 (0, 0)) (.cells (ansCs a pr q).toArray 45 (0, 0)) (.cells (eraCs zeroEra zeroRegA).toArray 38 (0, 0)))
  have H2 := Lib.hid (three_2 w (.cells (eraCs x p).toArray 38 (0, 0)) (.cells (ansCs a pr q).toArray 45 (0, 0)) (.cells (eraCs zeroEra zeroRegA).toArray 38 (0, 0)))
  have HW : (wantsS x).2.2 = true := by unfold wantsS; rw [if_pos (.inr h3)]
  have te : (a.rep.err == 0) = true := by rw [beq_iff_eq]; exact he
  have te' : (a.rep.err != 0) = false := by rw [he]; rfl
  have tp1 : ((x.phase : Int) == 1) = false := by rw [beq_eq_false_iff_ne]; omega
  have tp2 : ((x.phase : Int) == 2) = false := by rw [beq_eq_false_iff_ne]; omega
  have tp3 : ((x.phase : Int) == 3) = true := by rw [beq_iff_eq]; omega
  have SM := Lib.hid (fun w' (b : Below w.heap.size w w') => (show Calls Try.prog 26 #[.agg (regCs a.reg q).toArray, .agg (regCs x.reg p).toArray] w' (RetBo w' false) from by have H := sameC_any w' a.reg x.reg q p (ha.reg.mono b) (h.reg.mono b); rwa [decide_eq_false hsame] at H))
  clear he h3 hsame
  clear h ha
  unfold RetE RetW at *
  generalize wantsS x = want at *
  go_enter Try.func15, Try.ntmps15
  go_wp2_with (refine wpList_load_row rfl 38 (.tmp 2) rfl w.heap.size rfl 38 (eraCs x p).toArray _ _ H0.out Try.underlying38 rfl era_info ?_)
  refine (WN.out _ (bthen (bthen (BA.out w _) (BA.out _ _)) (BA.out _ _))).mono ?_
  rintro e w1 ⟨rfl, b1⟩
  have z0 := Lib.hid (block_up b1 H0.out)
  have z1 := Lib.hid (block_up b1 H1.out)
  have z2 := Lib.hid (block_up b1 H2.out)
  have BB := Lib.hid (bthen (bthen (bthen (BA.out w _) (BA.out _ _)) (BA.out _ _)) b1)
  have hs := b1.size
  simp only [World.size_alloc] at hs
  clear b1 WN H0 H1 H2
  go_wp2_with (first
    | (refine wpList_store_gen rfl 40 (.tmp 5) (.tmp 12) rfl w1.heap.size (opCs want.1).toArray (by rfl) (by rfl) 40 (opCs zeroOp).toArray (heap_alloc_new w1 _) op_info rfl (op_one _) ?_
       intro w2 hw2
       have b2 := Lib.hid (show Below w1.heap.size w1 w2 by rw [hw2]; exact below_row (BA.out w1 _) (Nat.le_refl _) _)
       clear hw2)
    | (refine wpList_store_gen rfl 38 (.tmp 8) (.tmp 18) rfl w2.heap.size (eraCs zeroEra zeroRegA).toArray (by rfl) (by rfl) 38 (eraCs zeroEra zeroRegA).toArray (heap_alloc_new w2 _) era_info rfl (era_one _ _) ?_
       intro w3 hw3
       have b3 := Lib.hid (show Below w2.heap.size w2 w3 by rw [hw3]; exact below_row (BA.out w2 _) (Nat.le_refl _) _)
       have z8 := Lib.hid (show w3.heap[w2.heap.size]? = some (.cells (eraCs zeroEra zeroRegA).toArray 38 (0, 0)) by rw [hw3]; exact setRow_heap _ _ _ _ _ _ (heap_alloc_new w2 (.cells (eraCs zeroEra zeroRegA).toArray 38 (0, 0))))
       have b23 := Lib.hid (bthen b2.out b3.out)
       have ce := blk_cell (block_up b23.out z1.out) 11 (v := .int .i64 a.rep.err) rfl
       have ck := blk_cell (block_up b23.out z1.out) 15 (v := .int .u8 (a.reg.kind : Int)) rfl
       have cp := blk_cell (block_up b23.out z0.out) 1 (v := .int .u8 (x.phase : Int)) rfl
       have x0 := blk_cell (block_up b23.out z0.out) 3 (v := .int .u8 (x.reg.kind : Int)) rfl
       have x1 := blk_cell (block_up b23.out z0.out) 4 (v := .int .u64 (x.reg.inc : Int)) rfl
       have x2 := blk_cell (block_up b23.out z0.out) 5 (v := .int .i64 x.reg.state) rfl
       have x3 := blk_cell (block_up b23.out z0.out) 6 (v := .slice p.va x.reg.vars.length p.vc) rfl
       have x4 := blk_cell (block_up b23.out z0.out) 7 (v := .slice p.da x.reg.done.length p.dc) rfl
       have x5 := blk_cell (block_up b23.out z0.out) 8 (v := .slice p.oa x.reg.out.length p.oc) rfl
       have x6 := blk_cell (block_up b23.out z0.out) 9 (v := .int .u64 (x.reg.last : Int)) rfl
       have x7 := blk_cell (block_up b23.out z0.out) 10 (v := .slice p.ma x.reg.marks.length p.mc) rfl
       have y0 := blk_cell (block_up b23.out z1.out) 15 (v := .int .u8 (a.reg.kind : Int)) rfl
       have y1 := blk_cell (block_up b23.out z1.out) 16 (v := .int .u64 (a.reg.inc : Int)) rfl
       have y2 := blk_cell (block_up b23.out z1.out) 17 (v := .int .i64 a.reg.state) rfl
       have y3 := blk_cell (block_up b23.out z1.out) 18 (v := .slice q.va a.reg.vars.length q.vc) rfl
       have y4 := blk_cell (block_up b23.out z1.out) 19 (v := .slice q.da a.reg.done.length q.dc) rfl
       have y5 := blk_cell (block_up b23.out z1.out) 20 (v := .slice q.oa a.reg.out.length q.oc) rfl
       have y6 := blk_cell (block_up b23.out z1.out) 21 (v := .int .u64 (a.reg.last : Int)) rfl
       have y7 := blk_cell (block_up b23.out z1.out) 22 (v := .slice q.ma a.reg.marks.length q.mc) rfl
       clear hw3))
  refine (SM.out _ (bthen BB.out b23.out)).mono ?_
  rintro e w4 ⟨rfl, b4⟩
  have b24 := Lib.hid (bthen b23.out b4)
  have z84 := Lib.hid (block_up b4 z8.out)
  clear ce ck cp x0 x1 x2 x3 x4 x5 x6 x7 y0 y1 y2 y3 y4 y5 y6 y7
  go_wp2_with (first
    | (refine wpList_load_row rfl 38 (.tmp 8) rfl w2.heap.size rfl 38 (eraCs zeroEra zeroRegA).toArray _ _ (z84.out) Try.underlying38 rfl era_info ?_)
    | (refine wpList_store_row rfl 38 (.tmp 4) (.tmp 66) rfl (w.heap.size + 2) (eraCs zeroEra zeroRegA).toArray (by rfl) (by rfl) 38 (eraCs zeroEra zeroRegA).toArray (block_up b24.out z2.out) era_info rfl (era_one _ _) ?_))
  refine bodyPost_ret (results_cell_row rfl _ _ _ _ (eraCs zeroEra zeroRegA).toArray _ _ rfl (setRow_heap _ _ _ (eraCs zeroEra zeroRegA).toArray _ _ (block_up b24.out z2.out)) Try.underlying38 rfl era_info) rfl ⟨rfl, ?_⟩
  exact below_row (bthen BB.out b24.out) (by omega) _
set_option maxRecDepth 10000 in
set_option maxHeartbeats 1600000 in
theorem told_3yes (w : World) (x : EraD) (p : RegA) (a : AnsD) (pr : RepA) (q : RegA) (h : EraAt w x p) (ha : AnsAt w a pr q) (h3 : x.phase = 3) (he : a.rep.err = 0) (hsame : a.reg = x.reg) :
    Calls Try.prog 15 #[.agg (eraCs x p).toArray, .agg (ansCs a pr q).toArray] w (RetE w ({ x with b := a.b, phase := 4 }) p) := by
  have BA := Lib.hid (fun w o => balloc w o)
  have WN := Lib.hid (fun w' (b : Below w.heap.size w w') => wants_any w' x p (h.mono b))
  have H0 := Lib.hid (three_0 w (.cells (eraCs x p).toArray 38 (0, 0)) (.cells (ansCs a pr q).toArray 45 (0, 0)) (.cells (eraCs zeroEra zeroRegA).toArray 38 (0, 0)))
  have H1 := Lib.hid (three_1 w (.cells (eraCs x p).toArray 38 (0, 0)) (.cells (ansCs a pr q).toArray 45 (0, 0)) (.cells (eraCs zeroEra zeroRegA).toArray 38 (0, 0)))
  have H2 := Lib.hid (three_2 w (.cells (eraCs x p).toArray 38 (0, 0)) (.cells (ansCs a pr q).toArray 45 (0, 0)) (.cells (eraCs zeroEra zeroRegA).toArray 38 (0, 0)))
  have HW : (wantsS x).2.2 = true := by unfold wantsS; rw [if_pos (.inr h3)]
  have te : (a.rep.err == 0) = true := by rw [beq_iff_eq]; exact he
  have te' : (a.rep.err != 0) = false := by rw [he]; rfl
  have tp1 : ((x.phase : Int) == 1) = false := by rw [beq_eq_false_iff_ne]; omega
  have tp2 : ((x.phase : Int) == 2) = false := by rw [beq_eq_false_iff_ne]; omega
  have tp3 : ((x.phase : Int) == 3) = true := by rw [beq_iff_eq]; omega
  have SM := Lib.hid (fun w' (b : Below w.heap.size w w') => (show Calls Try.prog 26 #[.agg (regCs a.reg q).toArray, .agg (regCs x.reg p).toArray] w' (RetBo w' true) from by have H := sameC_any w' a.reg x.reg q p (ha.reg.mono b) (h.reg.mono b); rwa [decide_eq_true hsame] at H))
  clear he h3 hsame
  clear h ha
  unfold RetE RetW at *
  generalize wantsS x = want at *
  go_enter Try.func15, Try.ntmps15
  go_wp2_with (refine wpList_load_row rfl 38 (.tmp 2) rfl w.heap.size rfl 38 (eraCs x p).toArray _ _ H0.out Try.underlying38 rfl era_info ?_)
  refine (WN.out _ (bthen (bthen (BA.out w _) (BA.out _ _)) (BA.out _ _))).mono ?_
  rintro e w1 ⟨rfl, b1⟩
  have z0 := Lib.hid (block_up b1 H0.out)
  have z1 := Lib.hid (block_up b1 H1.out)
  have z2 := Lib.hid (block_up b1 H2.out)
  have BB := Lib.hid (bthen (bthen (bthen (BA.out w _) (BA.out _ _)) (BA.out _ _)) b1)
  have hs := b1.size
  simp only [World.size_alloc] at hs
  clear b1 WN H0 H1 H2
  go_wp2_with (first
    | (refine wpList_store_gen rfl 40 (.tmp 5) (.tmp 12) rfl w1.heap.size (opCs want.1).toArray (by rfl) (by rfl) 40 (opCs zeroOp).toArray (heap_alloc_new w1 _) op_info rfl (op_one _) ?_
       intro w2 hw2
       have b2 := Lib.hid (show Below w1.heap.size w1 w2 by rw [hw2]; exact below_row (BA.out w1 _) (Nat.le_refl _) _)
       clear hw2)
    | (refine wpList_store_gen rfl 38 (.tmp 8) (.tmp 18) rfl w2.heap.size (eraCs zeroEra zeroRegA).toArray (by rfl) (by rfl) 38 (eraCs zeroEra zeroRegA).toArray (heap_alloc_new w2 _) era_info rfl (era_one _ _) ?_
       intro w3 hw3
       have b3 := Lib.hid (show Below w2.heap.size w2 w3 by rw [hw3]; exact below_row (BA.out w2 _) (Nat.le_refl _) _)
       have z8 := Lib.hid (show w3.heap[w2.heap.size]? = some (.cells (eraCs zeroEra zeroRegA).toArray 38 (0, 0)) by rw [hw3]; exact setRow_heap _ _ _ _ _ _ (heap_alloc_new w2 (.cells (eraCs zeroEra zeroRegA).toArray 38 (0, 0))))
       have b23 := Lib.hid (bthen b2.out b3.out)
       have ce := blk_cell (block_up b23.out z1.out) 11 (v := .int .i64 a.rep.err) rfl
       have ck := blk_cell (block_up b23.out z1.out) 15 (v := .int .u8 (a.reg.kind : Int)) rfl
       have cp := blk_cell (block_up b23.out z0.out) 1 (v := .int .u8 (x.phase : Int)) rfl
       have x0 := blk_cell (block_up b23.out z0.out) 3 (v := .int .u8 (x.reg.kind : Int)) rfl
       have x1 := blk_cell (block_up b23.out z0.out) 4 (v := .int .u64 (x.reg.inc : Int)) rfl
       have x2 := blk_cell (block_up b23.out z0.out) 5 (v := .int .i64 x.reg.state) rfl
       have x3 := blk_cell (block_up b23.out z0.out) 6 (v := .slice p.va x.reg.vars.length p.vc) rfl
       have x4 := blk_cell (block_up b23.out z0.out) 7 (v := .slice p.da x.reg.done.length p.dc) rfl
       have x5 := blk_cell (block_up b23.out z0.out) 8 (v := .slice p.oa x.reg.out.length p.oc) rfl
       have x6 := blk_cell (block_up b23.out z0.out) 9 (v := .int .u64 (x.reg.last : Int)) rfl
       have x7 := blk_cell (block_up b23.out z0.out) 10 (v := .slice p.ma x.reg.marks.length p.mc) rfl
       have y0 := blk_cell (block_up b23.out z1.out) 15 (v := .int .u8 (a.reg.kind : Int)) rfl
       have y1 := blk_cell (block_up b23.out z1.out) 16 (v := .int .u64 (a.reg.inc : Int)) rfl
       have y2 := blk_cell (block_up b23.out z1.out) 17 (v := .int .i64 a.reg.state) rfl
       have y3 := blk_cell (block_up b23.out z1.out) 18 (v := .slice q.va a.reg.vars.length q.vc) rfl
       have y4 := blk_cell (block_up b23.out z1.out) 19 (v := .slice q.da a.reg.done.length q.dc) rfl
       have y5 := blk_cell (block_up b23.out z1.out) 20 (v := .slice q.oa a.reg.out.length q.oc) rfl
       have y6 := blk_cell (block_up b23.out z1.out) 21 (v := .int .u64 (a.reg.last : Int)) rfl
       have y7 := blk_cell (block_up b23.out z1.out) 22 (v := .slice q.ma a.reg.marks.length q.mc) rfl
       clear hw3))
  refine (SM.out _ (bthen BB.out b23.out)).mono ?_
  rintro e w4 ⟨rfl, b4⟩
  have b24 := Lib.hid (bthen b23.out b4)
  have z84 := Lib.hid (block_up b4 z8.out)
  clear ce ck cp x0 x1 x2 x3 x4 x5 x6 x7 y0 y1 y2 y3 y4 y5 y6 y7
  have Y0 := block_up b24.out z0.out
  have G1 := Lib.hid (heap_setCell_same w4 w.heap.size 12 _ _ (.int .u64 (a.b.c : Int)) Y0)
  have G2 := Lib.hid (heap_setCell_same _ w.heap.size 13 _ _ (.int .u8 (a.b.n : Int)) G1.out)
  have G3 := Lib.hid (heap_setCell_same _ w.heap.size 14 _ _ (.int .u32 (a.b.l : Int)) G2.out)
  have G4 := Lib.hid (heap_setCell_same _ w.heap.size 1 _ _ (.int .u8 4) G3.out)
  have c1 := blk_cell Y0 1 (v := .int .u8 (x.phase : Int)) rfl
  have c12 := blk_cell Y0 12 (v := .int .u64 (x.b.c : Int)) rfl
  have c13 := blk_cell Y0 13 (v := .int .u8 (x.b.n : Int)) rfl
  have c14 := blk_cell Y0 14 (v := .int .u32 (x.b.l : Int)) rfl
  have r1 := froz_of Y0 1
  have r12 := froz_of Y0 12
  have r13 := froz_of Y0 13
  have r14 := froz_of Y0 14
  have v0 := blk_cell (block_up b24.out z1.out) 23 (v := .int .u64 (a.b.c : Int)) rfl
  have v1 := blk_cell (block_up b24.out z1.out) 24 (v := .int .u8 (a.b.n : Int)) rfl
  have v2 := blk_cell (block_up b24.out z1.out) 25 (v := .int .u32 (a.b.l : Int)) rfl
  have hne : ¬ w.heap.size + 1 = w.heap.size := by omega
  have G5 : Hid ((((((w4.setCell ⟨w.heap.size, 12, none⟩ (.int .u64 (a.b.c : Int))).setCell ⟨w.heap.size, 13, none⟩ (.int .u8 (a.b.n : Int))).setCell ⟨w.heap.size, 14, none⟩ (.int .u32 (a.b.l : Int))).setCell ⟨w.heap.size, 1, none⟩ (.int .u8 4))).heap[w.heap.size]? = some (.cells (eraCs { x with b := a.b, phase := 4 } p).toArray 38 (0, 0))) := Lib.hid G4.out
  have G6 : Hid ((((((w4.setCell ⟨w.heap.size, 12, none⟩ (.int .u64 (a.b.c : Int))).setCell ⟨w.heap.size, 13, none⟩ (.int .u8 (a.b.n : Int))).setCell ⟨w.heap.size, 14, none⟩ (.int .u32 (a.b.l : Int))).setCell ⟨w.heap.size, 1, none⟩ (.int .u8 4))).heap[w.heap.size + 2]? = some (.cells (eraCs zeroEra zeroRegA).toArray 38 (0, 0))) := Lib.hid (by
    rw [heap_setCell_other _ _ _ _ (by simp), heap_setCell_other _ _ _ _ (by simp), heap_setCell_other _ _ _ _ (by simp), heap_setCell_other _ _ _ _ (by simp)]
    exact block_up b24.out z2.out)
  have BF : Hid (Below w.heap.size w (((((w4.setCell ⟨w.heap.size, 12, none⟩ (.int .u64 (a.b.c : Int))).setCell ⟨w.heap.size, 13, none⟩ (.int .u8 (a.b.n : Int))).setCell ⟨w.heap.size, 14, none⟩ (.int .u32 (a.b.l : Int))).setCell ⟨w.heap.size, 1, none⟩ (.int .u8 4)))) := Lib.hid (below_set (below_set (below_set (below_set (bthen BB.out b24.out) (Nat.le_refl _) _ _) (Nat.le_refl _) _ _) (Nat.le_refl _) _ _) (Nat.le_refl _) _ _)
  clear Y0 G1 G2 G3 G4
  go_wp2_with (first
    | (refine wpList_load_row rfl 38 (.tmp 2) rfl w.heap.size rfl 38 (eraCs { x with b := a.b, phase := 4 } p).toArray (0, 0) _ ?_ Try.underlying38 rfl era_info ?_
       exact G5.out)
    | (refine wpList_store_row rfl 38 (.tmp 4) (.tmp 80) rfl (w.heap.size + 2) (eraCs { x with b := a.b, phase := 4 } p).toArray (by rfl) (by rfl) 38 (eraCs zeroEra zeroRegA).toArray ?_ era_info rfl (era_one _ _) ?_
       exact G6.out))
  refine bodyPost_ret (results_cell_row rfl _ _ _ _ (eraCs { x with b := a.b, phase := 4 } p).toArray _ _ rfl (setRow_heap _ _ _ (eraCs { x with b := a.b, phase := 4 } p).toArray _ _ G6.out) Try.underlying38 rfl era_info) rfl ⟨rfl, ?_⟩
  exact below_row BF.out (by omega) _

end Rg
end Go.Proofs.Ytiaogfjmhpkcmaa
