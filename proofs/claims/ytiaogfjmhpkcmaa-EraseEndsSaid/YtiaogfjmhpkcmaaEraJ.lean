/- The walks of an erasing's Told that looks at a mark. Conditions: the erasing and the answer can be read. -/
import Derived.Test.YtiaogfjmhpkcmaaEraI
import Derived.Test.YtiaogfjmhpkcmaaEraB
namespace Go.Proofs.Ytiaogfjmhpkcmaa
open Go.RowKit
set_option linter.unusedVariables false
namespace Rg

set_option maxRecDepth 10000 in
set_option maxHeartbeats 1600000 in
theorem told_2yes (w : World) (x : EraD) (p : RegA) (a : AnsD) (pr : RepA) (q : RegA) (h : EraAt w x p) (ha : AnsAt w a pr q) (h2 : x.phase = 2) (hm : markedB x = true) (he : a.rep.err = 0) (hb : blocksS a.reg x.key (x.reg.marks.getD x.at_.toNat ⟨0, 0, 0⟩) = true) :
    Calls Try.prog 15 #[.agg (eraCs x p).toArray, .agg (ansCs a pr q).toArray] w (RetE w zeroEra zeroRegA) := by
  have BA := Lib.hid (fun w o => balloc w o)
  have WN := Lib.hid (fun w' (b : Below w.heap.size w w') => wants_any w' x p (h.mono b))
  have H0 := Lib.hid (three_0 w (.cells (eraCs x p).toArray 38 (0, 0)) (.cells (ansCs a pr q).toArray 45 (0, 0)) (.cells (eraCs zeroEra zeroRegA).toArray 38 (0, 0)))
  have H1 := Lib.hid (three_1 w (.cells (eraCs x p).toArray 38 (0, 0)) (.cells (ansCs a pr q).toArray 45 (0, 0)) (.cells (eraCs zeroEra zeroRegA).toArray 38 (0, 0)))
  have H2 := Lib.hid (three_2 w (.cells (eraCs x p).toArray 38 (0, 0)) (.cells (ansCs a pr q).toArray 45 (0, 0)) (.cells (eraCs zeroEra zeroRegA).toArray 38 (0, 0)))
  have HW : (wantsS x).2.2 = true := by unfold wantsS; rw [if_neg (by omega), if_pos ⟨h2, hm⟩]
  have te : (a.rep.err == 0) = true := by rw [beq_iff_eq]; exact he
  have te' : (a.rep.err != 0) = false := by rw [he]; rfl
  have tp1 : ((x.phase : Int) == 1) = false := by rw [beq_eq_false_iff_ne]; omega
  have tp2 : ((x.phase : Int) == 2) = true := by rw [beq_iff_eq]; omega
  obtain ⟨k, hk, hlt⟩ := marked_split hm
  obtain ⟨b, o, cs, hma, hl, hc, ⟨rfl, _⟩, hbl⟩ := Rows.at h.reg.marks k hlt
  have m0 := Lib.hid (hc 0 (by simp))
  have m1 := Lib.hid (hc 1 (by simp))
  have m2 := Lib.hid (hc 2 (by simp))
  have hmx := h.reg.marks.1
  unfold maxLen at hmx
  have BL := Lib.hid (fun w' (bb : Below w.heap.size w w') => (show Calls Try.prog 12 #[.agg (regCs a.reg q).toArray, .int .u8 (x.key : Int), .agg #[.int .u8 (x.reg.marks[k].source : Int), .int .u64 (x.reg.marks[k].inc : Int), .int .u64 (x.reg.marks[k].cell : Int)]] w' (RetBo w' true) from by
    have H := blocks_any w' a.reg q (ha.reg.mono bb) x.key h.key x.reg.marks[k]
    rw [show x.reg.marks.getD x.at_.toNat ⟨0, 0, 0⟩ = x.reg.marks[k] from by rw [hk]; simp [List.getD, hlt]] at hb
    rwa [hb] at H))
  have HX := Lib.hid h
  have HK := Lib.hid hk
  have HMA := Lib.hid hma
  have i0 : (0 : Int) ≤ (k : Int) := by omega
  have i1 : (k : Int) < (x.reg.marks.length : Int) := by omega
  clear he h2 hm hk hma hc hl hbl hb
  clear h ha
  unfold RetE RetW at *
  generalize wantsS x = want at *
  go_enter Try.func15, Try.ntmps15
  go_wp2_with (refine wpList_load_row rfl 38 (.tmp 2) rfl w.heap.size rfl 38 (eraCs x p).toArray _ _ H0.out Try.underlying38 rfl era_info ?_)
  refine (WN.out _ (bthen (bthen (BA.out w _) (BA.out _ _)) (BA.out _ _))).mono ?_
  rintro e w1 ⟨rfl, b1⟩
  have z0 := Lib.hid (block_up b1 H0.out)
  have z1 := Lib.hid (block_up b1 H1.out)
  have z2 := Lib.hid (block_up b1 H2.out)
  have BB := Lib.hid (bthen (bthen (bthen (BA.out w _) (BA.out _ _)) (BA.out _ _)) b1)
  have hs := b1.size
  simp only [World.size_alloc] at hs
  clear b1 WN H0 H1 H2
  generalize x.reg.marks[k] = mk at *
  go_wp2_with (first
    | (refine wpList_store_gen rfl 40 (.tmp 5) (.tmp 12) rfl w1.heap.size (opCs want.1).toArray (by rfl) (by rfl) 40 (opCs zeroOp).toArray (heap_alloc_new w1 _) op_info rfl (op_one _) ?_
       intro w2 hw2
       have b2 := Lib.hid (show Below w1.heap.size w1 w2 by rw [hw2]; exact below_row (BA.out w1 _) (Nat.le_refl _) _)
       clear hw2)
    | (refine wpList_store_gen rfl 38 (.tmp 8) (.tmp 18) rfl w2.heap.size (eraCs zeroEra zeroRegA).toArray (by rfl) (by rfl) 38 (eraCs zeroEra zeroRegA).toArray (heap_alloc_new w2 _) era_info rfl (era_one _ _) ?_
       intro w3 hw3
       have b3 := Lib.hid (show Below w2.heap.size w2 w3 by rw [hw3]; exact below_row (BA.out w2 _) (Nat.le_refl _) _)
       have z8 := Lib.hid (show w3.heap[w2.heap.size]? = some (.cells (eraCs zeroEra zeroRegA).toArray 38 (0, 0)) by rw [hw3]; exact setRow_heap _ _ _ _ _ _ (heap_alloc_new w2 (.cells (eraCs zeroEra zeroRegA).toArray 38 (0, 0))))
       have b23 := Lib.hid (bthen b2.out b3.out)
       have xa := blk_cell (block_up b23.out z0.out) 11 (v := .int .i64 (k : Int)) (by rw [← HK.out]; rfl)
       have ce := blk_cell (block_up b23.out z1.out) 11 (v := .int .i64 a.rep.err) rfl
       have ck := blk_cell (block_up b23.out z1.out) 15 (v := .int .u8 (a.reg.kind : Int)) rfl
       have cp := blk_cell (block_up b23.out z0.out) 1 (v := .int .u8 (x.phase : Int)) rfl
       clear hw3))
  clear ce ck cp xa
  have y0 := fun n : ExtW w3.heap.size w3.drew => cell_up (bthen (below_dr w3 1) n.h) (blk_cell (block_up b23.out z1.out) 15 (v := .int .u8 (a.reg.kind : Int)) rfl)
  have y1 := fun n : ExtW w3.heap.size w3.drew => cell_up (bthen (below_dr w3 1) n.h) (blk_cell (block_up b23.out z1.out) 16 (v := .int .u64 (a.reg.inc : Int)) rfl)
  have y2 := fun n : ExtW w3.heap.size w3.drew => cell_up (bthen (below_dr w3 1) n.h) (blk_cell (block_up b23.out z1.out) 17 (v := .int .i64 a.reg.state) rfl)
  have y3 := fun n : ExtW w3.heap.size w3.drew => cell_up (bthen (below_dr w3 1) n.h) (blk_cell (block_up b23.out z1.out) 18 (v := .slice q.va a.reg.vars.length q.vc) rfl)
  have y4 := fun n : ExtW w3.heap.size w3.drew => cell_up (bthen (below_dr w3 1) n.h) (blk_cell (block_up b23.out z1.out) 19 (v := .slice q.da a.reg.done.length q.dc) rfl)
  have y5 := fun n : ExtW w3.heap.size w3.drew => cell_up (bthen (below_dr w3 1) n.h) (blk_cell (block_up b23.out z1.out) 20 (v := .slice q.oa a.reg.out.length q.oc) rfl)
  have y6 := fun n : ExtW w3.heap.size w3.drew => cell_up (bthen (below_dr w3 1) n.h) (blk_cell (block_up b23.out z1.out) 21 (v := .int .u64 (a.reg.last : Int)) rfl)
  have y7 := fun n : ExtW w3.heap.size w3.drew => cell_up (bthen (below_dr w3 1) n.h) (blk_cell (block_up b23.out z1.out) 22 (v := .slice q.ma a.reg.marks.length q.mc) rfl)
  have x0 := fun n : ExtW w3.heap.size w3.drew => cell_up (bthen (below_dr w3 1) n.h) (blk_cell (block_up b23.out z0.out) 0 (v := .int .u8 (x.key : Int)) rfl)
  have x10 := fun n : ExtW w3.heap.size w3.drew => cell_up (bthen (below_dr w3 1) n.h) (blk_cell (block_up b23.out z0.out) 10 (v := .slice (some ⟨b, o, none⟩) x.reg.marks.length p.mc) (by rw [← HMA.out]; rfl))
  have x11 := fun n : ExtW w3.heap.size w3.drew => cell_up (bthen (below_dr w3 1) n.h) (blk_cell (block_up b23.out z0.out) 11 (v := .int .i64 (k : Int)) (by rw [← HK.out]; rfl))
  have M := Lib.hid (bthen BB.out b23.out)
  have k0 := fun n : ExtW w3.heap.size w3.drew => cell_up (bthen (below_dr w3 1) n.h) (cell_up M.out (by have := m0.out; simpa using this))
  have k1 := fun n : ExtW w3.heap.size w3.drew => cell_up (bthen (below_dr w3 1) n.h) (cell_up M.out (by have := m1.out; simpa using this))
  have k2 := fun n : ExtW w3.heap.size w3.drew => cell_up (bthen (below_dr w3 1) n.h) (cell_up M.out (by have := m2.out; simpa using this))
  refine wp_region_up [(0, false), (1, false), (2, false), (3, false), (4, false), (5, false), (6, false), (7, false), (8, false), (9, false), (10, false), (11, true)] w3.heap.size (by kernel_rfl) (by kernel_rfl) ?_
  repeat
    refine wpUp_pure (by rfl) (by rfl) (by rfl) (fun K hK => ?_)
    conv => arg 2; whnf
    go_big_quiet_op
    refine hK _ ?_
    clear hK K
  clear y0 y1 y2 y3 y4 y5 y6 y7 x0 x10 x11 k0 k1 k2 m0 m1 m2
  refine wpUp_call (by rfl) (by rfl) (Nat.le_refl _) (fun K hK => ?_)
  conv => arg 2; whnf
  go_simp
  refine (BL.out _ (bthen M.out (below_dr w3 1))).mono ?_
  rintro e w4 ⟨rfl, b4⟩
  refine hK _ _ b4 ?_
  clear hK K
  refine wpUp_nil ?_
  have b34 := Lib.hid (bthen (below_dr w3 1) b4)
  have b24 := Lib.hid (bthen b23.out b34.out)
  have z84 := Lib.hid (block_up b34.out z8.out)
  have Z0 := Lib.hid (block_up b24.out z0.out)
  have Z2 := Lib.hid (block_up b24.out z2.out)
  clear BL b4
  go_wp2_with (first
    | (refine wpList_load_row rfl 38 (.tmp 8) rfl w2.heap.size rfl 38 (eraCs zeroEra zeroRegA).toArray _ _ (z84.out) Try.underlying38 rfl era_info ?_)
    | (refine wpList_store_row rfl 38 (.tmp 4) (.tmp 53) rfl (w.heap.size + 2) (eraCs zeroEra zeroRegA).toArray (by rfl) (by rfl) 38 (eraCs zeroEra zeroRegA).toArray (Z2.out) era_info rfl (era_one _ _) ?_))
  refine bodyPost_ret (results_cell_row rfl _ _ _ _ (eraCs zeroEra zeroRegA).toArray _ _ rfl (setRow_heap _ _ _ (eraCs zeroEra zeroRegA).toArray _ _ (Z2.out)) Try.underlying38 rfl era_info) rfl ⟨rfl, ?_⟩
  exact below_row (bthen BB.out b24.out) (by omega) _
set_option maxRecDepth 10000 in
set_option maxHeartbeats 1600000 in
theorem told_2no (w : World) (x : EraD) (p : RegA) (a : AnsD) (pr : RepA) (q : RegA) (h : EraAt w x p) (ha : AnsAt w a pr q) (h2 : x.phase = 2) (hm : markedB x = true) (he : a.rep.err = 0) (hb : blocksS a.reg x.key (x.reg.marks.getD x.at_.toNat ⟨0, 0, 0⟩) = false) :
    Calls Try.prog 15 #[.agg (eraCs x p).toArray, .agg (ansCs a pr q).toArray] w (RetN w (if markedB { x with at_ := x.at_ + 1 } then { x with at_ := x.at_ + 1 } else { x with at_ := x.at_ + 1, phase := 3 })) := by
  have BA := Lib.hid (fun w o => balloc w o)
  have WN := Lib.hid (fun w' (b : Below w.heap.size w w') => wants_any w' x p (h.mono b))
  have H0 := Lib.hid (three_0 w (.cells (eraCs x p).toArray 38 (0, 0)) (.cells (ansCs a pr q).toArray 45 (0, 0)) (.cells (eraCs zeroEra zeroRegA).toArray 38 (0, 0)))
  have H1 := Lib.hid (three_1 w (.cells (eraCs x p).toArray 38 (0, 0)) (.cells (ansCs a pr q).toArray 45 (0, 0)) (.cells (eraCs zeroEra zeroRegA).toArray 38 (0, 0)))
  have H2 := Lib.hid (three_2 w (.cells (eraCs x p).toArray 38 (0, 0)) (.cells (ansCs a pr q).toArray 45 (0, 0)) (.cells (eraCs zeroEra zeroRegA).toArray 38 (0, 0)))
  have HW : (wantsS x).2.2 = true := by unfold wantsS; rw [if_neg (by omega), if_pos ⟨h2, hm⟩]
  have te : (a.rep.err == 0) = true := by rw [beq_iff_eq]; exact he
  have te' : (a.rep.err != 0) = false := by rw [he]; rfl
  have tp1 : ((x.phase : Int) == 1) = false := by rw [beq_eq_false_iff_ne]; omega
  have tp2 : ((x.phase : Int) == 2) = true := by rw [beq_iff_eq]; omega
  obtain ⟨k, hk, hlt⟩ := marked_split hm
  obtain ⟨b, o, cs, hma, hl, hc, ⟨rfl, _⟩, hbl⟩ := Rows.at h.reg.marks k hlt
  have m0 := Lib.hid (hc 0 (by simp))
  have m1 := Lib.hid (hc 1 (by simp))
  have m2 := Lib.hid (hc 2 (by simp))
  have hmx := h.reg.marks.1
  unfold maxLen at hmx
  have BL := Lib.hid (fun w' (bb : Below w.heap.size w w') => (show Calls Try.prog 12 #[.agg (regCs a.reg q).toArray, .int .u8 (x.key : Int), .agg #[.int .u8 (x.reg.marks[k].source : Int), .int .u64 (x.reg.marks[k].inc : Int), .int .u64 (x.reg.marks[k].cell : Int)]] w' (RetBo w' false) from by
    have H := blocks_any w' a.reg q (ha.reg.mono bb) x.key h.key x.reg.marks[k]
    rw [show x.reg.marks.getD x.at_.toNat ⟨0, 0, 0⟩ = x.reg.marks[k] from by rw [hk]; simp [List.getD, hlt]] at hb
    rwa [hb] at H))
  have HX := Lib.hid h
  have HK := Lib.hid hk
  have HMA := Lib.hid hma
  have i0 : (0 : Int) ≤ (k : Int) := by omega
  have i1 : (k : Int) < (x.reg.marks.length : Int) := by omega
  clear he h2 hm hk hma hc hl hbl hb
  obtain ⟨res, hres⟩ : ∃ res, res = (if markedB { x with at_ := x.at_ + 1 } then { x with at_ := x.at_ + 1 } else { x with at_ := x.at_ + 1, phase := 3 }) := ⟨_, rfl⟩
  rw [← hres]
  have HRES := Lib.hid hres
  clear hres
  clear h ha
  unfold RetN RetW at *
  generalize wantsS x = want at *
  go_enter Try.func15, Try.ntmps15
  go_wp2_with (refine wpList_load_row rfl 38 (.tmp 2) rfl w.heap.size rfl 38 (eraCs x p).toArray _ _ H0.out Try.underlying38 rfl era_info ?_)
  refine (WN.out _ (bthen (bthen (BA.out w _) (BA.out _ _)) (BA.out _ _))).mono ?_
  rintro e w1 ⟨rfl, b1⟩
  have z0 := Lib.hid (block_up b1 H0.out)
  have z1 := Lib.hid (block_up b1 H1.out)
  have z2 := Lib.hid (block_up b1 H2.out)
  have BB := Lib.hid (bthen (bthen (bthen (BA.out w _) (BA.out _ _)) (BA.out _ _)) b1)
  have hs := b1.size
  simp only [World.size_alloc] at hs
  clear b1 WN H0 H1 H2
  generalize x.reg.marks[k] = mk at *
  go_wp2_with (first
    | (refine wpList_store_gen rfl 40 (.tmp 5) (.tmp 12) rfl w1.heap.size (opCs want.1).toArray (by rfl) (by rfl) 40 (opCs zeroOp).toArray (heap_alloc_new w1 _) op_info rfl (op_one _) ?_
       intro w2 hw2
       have b2 := Lib.hid (show Below w1.heap.size w1 w2 by rw [hw2]; exact below_row (BA.out w1 _) (Nat.le_refl _) _)
       clear hw2)
    | (refine wpList_store_gen rfl 38 (.tmp 8) (.tmp 18) rfl w2.heap.size (eraCs zeroEra zeroRegA).toArray (by rfl) (by rfl) 38 (eraCs zeroEra zeroRegA).toArray (heap_alloc_new w2 _) era_info rfl (era_one _ _) ?_
       intro w3 hw3
       have b3 := Lib.hid (show Below w2.heap.size w2 w3 by rw [hw3]; exact below_row (BA.out w2 _) (Nat.le_refl _) _)
       have z8 := Lib.hid (show w3.heap[w2.heap.size]? = some (.cells (eraCs zeroEra zeroRegA).toArray 38 (0, 0)) by rw [hw3]; exact setRow_heap _ _ _ _ _ _ (heap_alloc_new w2 (.cells (eraCs zeroEra zeroRegA).toArray 38 (0, 0))))
       have b23 := Lib.hid (bthen b2.out b3.out)
       have xa := blk_cell (block_up b23.out z0.out) 11 (v := .int .i64 (k : Int)) (by rw [← HK.out]; rfl)
       have ce := blk_cell (block_up b23.out z1.out) 11 (v := .int .i64 a.rep.err) rfl
       have ck := blk_cell (block_up b23.out z1.out) 15 (v := .int .u8 (a.reg.kind : Int)) rfl
       have cp := blk_cell (block_up b23.out z0.out) 1 (v := .int .u8 (x.phase : Int)) rfl
       clear hw3))
  clear ce ck cp xa
  have y0 := fun n : ExtW w3.heap.size w3.drew => cell_up (bthen (below_dr w3 1) n.h) (blk_cell (block_up b23.out z1.out) 15 (v := .int .u8 (a.reg.kind : Int)) rfl)
  have y1 := fun n : ExtW w3.heap.size w3.drew => cell_up (bthen (below_dr w3 1) n.h) (blk_cell (block_up b23.out z1.out) 16 (v := .int .u64 (a.reg.inc : Int)) rfl)
  have y2 := fun n : ExtW w3.heap.size w3.drew => cell_up (bthen (below_dr w3 1) n.h) (blk_cell (block_up b23.out z1.out) 17 (v := .int .i64 a.reg.state) rfl)
  have y3 := fun n : ExtW w3.heap.size w3.drew => cell_up (bthen (below_dr w3 1) n.h) (blk_cell (block_up b23.out z1.out) 18 (v := .slice q.va a.reg.vars.length q.vc) rfl)
  have y4 := fun n : ExtW w3.heap.size w3.drew => cell_up (bthen (below_dr w3 1) n.h) (blk_cell (block_up b23.out z1.out) 19 (v := .slice q.da a.reg.done.length q.dc) rfl)
  have y5 := fun n : ExtW w3.heap.size w3.drew => cell_up (bthen (below_dr w3 1) n.h) (blk_cell (block_up b23.out z1.out) 20 (v := .slice q.oa a.reg.out.length q.oc) rfl)
  have y6 := fun n : ExtW w3.heap.size w3.drew => cell_up (bthen (below_dr w3 1) n.h) (blk_cell (block_up b23.out z1.out) 21 (v := .int .u64 (a.reg.last : Int)) rfl)
  have y7 := fun n : ExtW w3.heap.size w3.drew => cell_up (bthen (below_dr w3 1) n.h) (blk_cell (block_up b23.out z1.out) 22 (v := .slice q.ma a.reg.marks.length q.mc) rfl)
  have x0 := fun n : ExtW w3.heap.size w3.drew => cell_up (bthen (below_dr w3 1) n.h) (blk_cell (block_up b23.out z0.out) 0 (v := .int .u8 (x.key : Int)) rfl)
  have x10 := fun n : ExtW w3.heap.size w3.drew => cell_up (bthen (below_dr w3 1) n.h) (blk_cell (block_up b23.out z0.out) 10 (v := .slice (some ⟨b, o, none⟩) x.reg.marks.length p.mc) (by rw [← HMA.out]; rfl))
  have x11 := fun n : ExtW w3.heap.size w3.drew => cell_up (bthen (below_dr w3 1) n.h) (blk_cell (block_up b23.out z0.out) 11 (v := .int .i64 (k : Int)) (by rw [← HK.out]; rfl))
  have M := Lib.hid (bthen BB.out b23.out)
  have k0 := fun n : ExtW w3.heap.size w3.drew => cell_up (bthen (below_dr w3 1) n.h) (cell_up M.out (by have := m0.out; simpa using this))
  have k1 := fun n : ExtW w3.heap.size w3.drew => cell_up (bthen (below_dr w3 1) n.h) (cell_up M.out (by have := m1.out; simpa using this))
  have k2 := fun n : ExtW w3.heap.size w3.drew => cell_up (bthen (below_dr w3 1) n.h) (cell_up M.out (by have := m2.out; simpa using this))
  refine wp_region_up [(0, false), (1, false), (2, false), (3, false), (4, false), (5, false), (6, false), (7, false), (8, false), (9, false), (10, false), (11, true)] w3.heap.size (by kernel_rfl) (by kernel_rfl) ?_
  repeat
    refine wpUp_pure (by rfl) (by rfl) (by rfl) (fun K hK => ?_)
    conv => arg 2; whnf
    go_big_quiet_op
    refine hK _ ?_
    clear hK K
  clear y0 y1 y2 y3 y4 y5 y6 y7 x0 x10 x11 k0 k1 k2 m0 m1 m2
  refine wpUp_call (by rfl) (by rfl) (Nat.le_refl _) (fun K hK => ?_)
  conv => arg 2; whnf
  go_simp
  refine (BL.out _ (bthen M.out (below_dr w3 1))).mono ?_
  rintro e w4 ⟨rfl, b4⟩
  refine hK _ _ b4 ?_
  clear hK K
  refine wpUp_nil ?_
  have b34 := Lib.hid (bthen (below_dr w3 1) b4)
  have b24 := Lib.hid (bthen b23.out b34.out)
  have z84 := Lib.hid (block_up b34.out z8.out)
  have Z0 := Lib.hid (block_up b24.out z0.out)
  have Z2 := Lib.hid (block_up b24.out z2.out)
  clear BL b4
  have xa := cell_of Z0.out 11 (v := .int .i64 (k : Int)) (by rw [← HK.out]; rfl)
  have xp := cell_of Z0.out 1 (v := .int .u8 (x.phase : Int)) rfl
  have fa := froz_of Z0.out 11
  have hk63 : (k : Int) + 1 ≤ 9223372036854775807 := by omega
  have G5 : Hid (((w4.setCell ⟨w.heap.size, 11, none⟩ (.int .i64 ((k : Int) + 1)))).heap[w.heap.size]? = some (.cells (eraCs { x with at_ := x.at_ + 1 } p).toArray 38 (0, 0))) := Lib.hid (by rw [heap_setCell_same _ _ _ _ _ _ Z0.out, ← HK.out]; simp only [eraCs, List.setIfInBounds_toArray, List.set_cons_succ, List.set_cons_zero]; try rfl)
  go_wp2_with (refine wpList_load_wanted (by rfl) 38 (.tmp 2) rfl w.heap.size rfl 38 (eraCs { x with at_ := x.at_ + 1 } p).toArray (0, 0) _ ?_ Try.underlying38 rfl era_info ?_
               exact G5.out)
  have OTH : Hid (∀ j, j ≠ w.heap.size → ((w4.setCell ⟨w.heap.size, 11, none⟩ (.int .i64 ((k : Int) + 1)))).heap[j]? = w4.heap[j]?) := Lib.hid (fun j hj => heap_setCell_other _ _ _ _ hj)
  have Z2' : Hid (((w4.setCell ⟨w.heap.size, 11, none⟩ (.int .i64 ((k : Int) + 1)))).heap[w.heap.size + 2]? = some (.cells (eraCs zeroEra zeroRegA).toArray 38 (0, 0))) := Lib.hid (by rw [OTH.out _ (by omega)]; exact Z2.out)
  have BC : Hid (Below w.heap.size w ((w4.setCell ⟨w.heap.size, 11, none⟩ (.int .i64 ((k : Int) + 1))))) := Lib.hid (below_set (bthen BB.out b24.out) (Nat.le_refl _) _ _)
  have hrange : I64 (x.at_ + 1) := by rw [HK.out]; unfold I64; omega
  have NE : Hid (EraAt ((w4.setCell ⟨w.heap.size, 11, none⟩ (.int .i64 ((k : Int) + 1)))) { x with at_ := x.at_ + 1 } p) := Lib.hid ⟨HX.out.key, HX.out.phase, HX.out.conf, HX.out.reg.mono BC.out, hrange, HX.out.b, HX.out.visited, HX.out.erased⟩
  refine (marked_any _ _ _ NE.out).mono ?_
  rintro e w6 ⟨rfl, b6⟩
  have U0 := block_up b6 G5.out
  have U2 := Lib.hid (block_up b6 Z2'.out)
  have B6 := Lib.hid (bthen BC.out b6)
  have q1 := cell_of U0 1 (v := .int .u8 (x.phase : Int)) rfl
  have r1 := froz_of U0 1
  have W0 : Hid ((w6.setCell ⟨w.heap.size, 1, none⟩ (.int .u8 3)).heap[w.heap.size]? = some (.cells (eraCs { x with at_ := x.at_ + 1, phase := 3 } p).toArray 38 (0, 0))) := Lib.hid (by rw [heap_setCell_same _ _ _ _ _ _ U0]; simp only [eraCs, List.setIfInBounds_toArray, List.set_cons_succ, List.set_cons_zero]; try rfl)
  have W2 : Hid ((w6.setCell ⟨w.heap.size, 1, none⟩ (.int .u8 3)).heap[w.heap.size + 2]? = some (.cells (eraCs zeroEra zeroRegA).toArray 38 (0, 0))) := Lib.hid (by rw [heap_setCell_other _ _ _ _ (by simp)]; exact U2.out)
  have U0' := Lib.hid U0
  have HR := Lib.hid hrange
  clear U0 b6 xa xp fa G5 OTH NE Z2' BC hrange
  cases hm : markedB { x with at_ := x.at_ + 1 }
  · have hr : res = { x with at_ := x.at_ + 1, phase := 3 } := by rw [HRES.out, hm]; rfl
    subst hr
    go_wp2_with (first
      | (refine wpList_load_row rfl 38 (.tmp 2) rfl w.heap.size rfl 38 (eraCs { x with at_ := x.at_ + 1, phase := 3 } p).toArray (0, 0) _ ?_ Try.underlying38 rfl era_info ?_
         exact W0.out)
      | (refine wpList_store_row rfl 38 (.tmp 4) (.tmp 80) rfl (w.heap.size + 2) (eraCs { x with at_ := x.at_ + 1, phase := 3 } p).toArray (by rfl) (by rfl) 38 (eraCs zeroEra zeroRegA).toArray ?_ era_info rfl (era_one _ _) ?_
         exact W2.out))
    have BF := below_row (below_set B6.out (Nat.le_refl _) 1 (.int .u8 3)) (show w.heap.size ≤ w.heap.size + 2 by omega) (eraCs { x with at_ := x.at_ + 1, phase := 3 } p).toArray
    refine bodyPost_ret (results_cell_row rfl _ _ _ _ (eraCs { x with at_ := x.at_ + 1, phase := 3 } p).toArray _ _ rfl (setRow_heap _ _ _ (eraCs { x with at_ := x.at_ + 1, phase := 3 } p).toArray _ _ W2.out) Try.underlying38 rfl era_info) rfl ⟨⟨p, rfl, ?_⟩, BF⟩
    exact ⟨HX.out.key, by unfold U8; simp only; omega, HX.out.conf, HX.out.reg.mono BF, HR.out, HX.out.b, HX.out.visited, HX.out.erased⟩
  · have hr : res = { x with at_ := x.at_ + 1 } := by rw [HRES.out, hm]; rfl
    subst hr
    go_wp2_with (first
      | (refine wpList_load_row rfl 38 (.tmp 2) rfl w.heap.size rfl 38 (eraCs { x with at_ := x.at_ + 1 } p).toArray (0, 0) _ ?_ Try.underlying38 rfl era_info ?_
         exact U0'.out)
      | (refine wpList_store_row rfl 38 (.tmp 4) (.tmp 80) rfl (w.heap.size + 2) (eraCs { x with at_ := x.at_ + 1 } p).toArray (by rfl) (by rfl) 38 (eraCs zeroEra zeroRegA).toArray ?_ era_info rfl (era_one _ _) ?_
         exact U2.out))
    have BF := below_row B6.out (show w.heap.size ≤ w.heap.size + 2 by omega) (eraCs { x with at_ := x.at_ + 1 } p).toArray
    refine bodyPost_ret (results_cell_row rfl _ _ _ _ (eraCs { x with at_ := x.at_ + 1 } p).toArray _ _ rfl (setRow_heap _ _ _ (eraCs { x with at_ := x.at_ + 1 } p).toArray _ _ U2.out) Try.underlying38 rfl era_info) rfl ⟨⟨p, rfl, ?_⟩, BF⟩
    exact ⟨HX.out.key, HX.out.phase, HX.out.conf, HX.out.reg.mono BF, HR.out, HX.out.b, HX.out.visited, HX.out.erased⟩

end Rg
end Go.Proofs.Ytiaogfjmhpkcmaa
