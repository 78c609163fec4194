/- The walk of the law EraseStops. Conditions: the arguments can be read. -/
import Derived.Test.YtiaogfjmhpkcmaaEraK
namespace Go.Proofs.Ytiaogfjmhpkcmaa
open Go.RowKit
set_option linter.unusedVariables false
namespace Rg

theorem two_0 (w : World) (a b : Obj) : ((w.alloc a).alloc b).heap[w.heap.size]? = some a := block_up (balloc (w.alloc a) b) (heap_alloc_new w a)
theorem two_1 (w : World) (a b : Obj) : ((w.alloc a).alloc b).heap[w.heap.size + 1]? = some b := by
  have h := heap_alloc_new (w.alloc a) b
  rw [World.size_alloc] at h
  exact h
theorem ans_info : (Try.prog.info? 45).map (·.size) = some 26 := by kernel_rfl

set_option maxRecDepth 10000 in
theorem stops_gx (w : World) (x : EraD) (p : RegA) (a : AnsD) (pr : RepA) (q : RegA) (h : EraAt w x p) (ha : AnsAt w a pr q) (hgx : greatS x.reg = true) :
    Calls Try.prog 4 #[.agg (eraCs x p).toArray, .agg (ansCs a pr q).toArray] w (RetBo w true) := by
  have BA := Lib.hid (fun w o => balloc w o)
  have AW := Lib.hid (fun w' => awake_any w')
  have H0 := Lib.hid (two_0 w (.cells (eraCs x p).toArray 38 (0, 0)) (.cells (ansCs a pr q).toArray 45 (0, 0)))
  have H1 := Lib.hid (two_1 w (.cells (eraCs x p).toArray 38 (0, 0)) (.cells (ansCs a pr q).toArray 45 (0, 0)))
  have GX := Lib.hid (fun w' (b : Below w.heap.size w w') => (show Calls Try.prog 10 #[.agg (regCs x.reg p).toArray] w' (RetBo w' true) from by have H := great_any w' x.reg p (h.reg.mono b); rwa [hgx] at H))
  clear h ha hgx H0 H1
  unfold eraCs ansCs
  go_enter Try.func4, Try.ntmps4
  go_wp2_with fail
  refine (GX.out _ (bthen (BA.out w _) (BA.out _ _))).mono ?_
  rintro e w1 ⟨rfl, b1⟩
  go_wp2_with fail
  refine (AW.out _).mono ?_
  rintro e w9 ⟨rfl, b9⟩
  go_wp2_with fail
  go_ret
  exact retBo rfl (bthen (bthen (bthen (BA.out w _) (BA.out _ _)) b1) b9)

set_option maxRecDepth 10000 in
theorem stops_ga (w : World) (x : EraD) (p : RegA) (a : AnsD) (pr : RepA) (q : RegA) (h : EraAt w x p) (ha : AnsAt w a pr q) (hgx : greatS x.reg = false) (hga : greatS a.reg = true) :
    Calls Try.prog 4 #[.agg (eraCs x p).toArray, .agg (ansCs a pr q).toArray] w (RetBo w true) := by
  have BA := Lib.hid (fun w o => balloc w o)
  have AW := Lib.hid (fun w' => awake_any w')
  have H0 := Lib.hid (two_0 w (.cells (eraCs x p).toArray 38 (0, 0)) (.cells (ansCs a pr q).toArray 45 (0, 0)))
  have H1 := Lib.hid (two_1 w (.cells (eraCs x p).toArray 38 (0, 0)) (.cells (ansCs a pr q).toArray 45 (0, 0)))
  have GX := Lib.hid (fun w' (b : Below w.heap.size w w') => (show Calls Try.prog 10 #[.agg (regCs x.reg p).toArray] w' (RetBo w' false) from by have H := great_any w' x.reg p (h.reg.mono b); rwa [hgx] at H))
  have GA := Lib.hid (fun w' (b : Below w.heap.size w w') => (show Calls Try.prog 10 #[.agg (regCs a.reg q).toArray] w' (RetBo w' true) from by have H := great_any w' a.reg q (ha.reg.mono b); rwa [hga] at H))
  clear h ha hgx hga
  unfold eraCs ansCs
  go_enter Try.func4, Try.ntmps4
  go_wp2_with fail
  refine (GX.out _ (bthen (BA.out w _) (BA.out _ _))).mono ?_
  rintro e w1 ⟨rfl, b1⟩
  have f0 := own_cell2 b1 15 (v := .int .u8 (a.reg.kind : Int)) rfl
  have f1 := own_cell2 b1 16 (v := .int .u64 (a.reg.inc : Int)) rfl
  have f2 := own_cell2 b1 17 (v := .int .i64 a.reg.state) rfl
  have f3 := own_cell2 b1 18 (v := .slice q.va a.reg.vars.length q.vc) rfl
  have f4 := own_cell2 b1 19 (v := .slice q.da a.reg.done.length q.dc) rfl
  have f5 := own_cell2 b1 20 (v := .slice q.oa a.reg.out.length q.oc) rfl
  have f6 := own_cell2 b1 21 (v := .int .u64 (a.reg.last : Int)) rfl
  have f7 := own_cell2 b1 22 (v := .slice q.ma a.reg.marks.length q.mc) rfl
  have ce := own_cell2 b1 11 (v := .int .i64 a.rep.err) rfl
  have z0 := Lib.hid (block_up b1 H0.out)
  have z1 := Lib.hid (block_up b1 H1.out)
  have BB := Lib.hid (bthen (bthen (BA.out w _) (BA.out _ _)) b1)
  clear b1 H0 H1
  go_wp2_with fail
  refine (GA.out _ BB.out).mono ?_
  rintro e w2 ⟨rfl, b2⟩
  have ce2 := cell_up b2 ce
  have y0 := Lib.hid (block_up b2 z0.out)
  have y1 := Lib.hid (block_up b2 z1.out)
  have B2 := Lib.hid (bthen BB.out b2)
  clear f0 f1 f2 f3 f4 f5 f6 f7 ce b2 z0 z1 BB
  go_wp2_with fail
  refine (AW.out _).mono ?_
  rintro e w9 ⟨rfl, b9⟩
  go_wp2_with fail
  go_ret
  exact retBo rfl (bthen (B2.out) b9)

set_option maxRecDepth 10000 in
theorem stops_ok (w : World) (x : EraD) (p : RegA) (a : AnsD) (pr : RepA) (q : RegA) (h : EraAt w x p) (ha : AnsAt w a pr q) (hgx : greatS x.reg = false) (hga : greatS a.reg = false) (he : a.rep.err = 0) :
    Calls Try.prog 4 #[.agg (eraCs x p).toArray, .agg (ansCs a pr q).toArray] w (RetBo w true) := by
  have BA := Lib.hid (fun w o => balloc w o)
  have AW := Lib.hid (fun w' => awake_any w')
  have H0 := Lib.hid (two_0 w (.cells (eraCs x p).toArray 38 (0, 0)) (.cells (ansCs a pr q).toArray 45 (0, 0)))
  have H1 := Lib.hid (two_1 w (.cells (eraCs x p).toArray 38 (0, 0)) (.cells (ansCs a pr q).toArray 45 (0, 0)))
  have GX := Lib.hid (fun w' (b : Below w.heap.size w w') => (show Calls Try.prog 10 #[.agg (regCs x.reg p).toArray] w' (RetBo w' false) from by have H := great_any w' x.reg p (h.reg.mono b); rwa [hgx] at H))
  have GA := Lib.hid (fun w' (b : Below w.heap.size w w') => (show Calls Try.prog 10 #[.agg (regCs a.reg q).toArray] w' (RetBo w' false) from by have H := great_any w' a.reg q (ha.reg.mono b); rwa [hga] at H))
  have te : (a.rep.err == 0) = true := by rw [beq_iff_eq]; exact he
  clear h ha hgx hga he
  unfold eraCs ansCs
  go_enter Try.func4, Try.ntmps4
  go_wp2_with fail
  refine (GX.out _ (bthen (BA.out w _) (BA.out _ _))).mono ?_
  rintro e w1 ⟨rfl, b1⟩
  have f0 := own_cell2 b1 15 (v := .int .u8 (a.reg.kind : Int)) rfl
  have f1 := own_cell2 b1 16 (v := .int .u64 (a.reg.inc : Int)) rfl
  have f2 := own_cell2 b1 17 (v := .int .i64 a.reg.state) rfl
  have f3 := own_cell2 b1 18 (v := .slice q.va a.reg.vars.length q.vc) rfl
  have f4 := own_cell2 b1 19 (v := .slice q.da a.reg.done.length q.dc) rfl
  have f5 := own_cell2 b1 20 (v := .slice q.oa a.reg.out.length q.oc) rfl
  have f6 := own_cell2 b1 21 (v := .int .u64 (a.reg.last : Int)) rfl
  have f7 := own_cell2 b1 22 (v := .slice q.ma a.reg.marks.length q.mc) rfl
  have ce := own_cell2 b1 11 (v := .int .i64 a.rep.err) rfl
  have z0 := Lib.hid (block_up b1 H0.out)
  have z1 := Lib.hid (block_up b1 H1.out)
  have BB := Lib.hid (bthen (bthen (BA.out w _) (BA.out _ _)) b1)
  clear b1 H0 H1
  go_wp2_with fail
  refine (GA.out _ BB.out).mono ?_
  rintro e w2 ⟨rfl, b2⟩
  have ce2 := cell_up b2 ce
  have y0 := Lib.hid (block_up b2 z0.out)
  have y1 := Lib.hid (block_up b2 z1.out)
  have B2 := Lib.hid (bthen BB.out b2)
  clear f0 f1 f2 f3 f4 f5 f6 f7 ce b2 z0 z1 BB
  go_wp2_with fail
  refine (AW.out _).mono ?_
  rintro e w9 ⟨rfl, b9⟩
  go_wp2_with fail
  go_ret
  exact retBo rfl (bthen (B2.out) b9)

set_option maxRecDepth 10000 in
theorem stops_wants (w : World) (x : EraD) (p : RegA) (a : AnsD) (pr : RepA) (q : RegA) (h : EraAt w x p) (ha : AnsAt w a pr q) (hgx : greatS x.reg = false) (hga : greatS a.reg = false) (he : a.rep.err ≠ 0) (hw : (wantsS x).2.2 = true) :
    Calls Try.prog 4 #[.agg (eraCs x p).toArray, .agg (ansCs a pr q).toArray] w (RetBo w true) := by
  have BA := Lib.hid (fun w o => balloc w o)
  have AW := Lib.hid (fun w' => awake_any w')
  have H0 := Lib.hid (two_0 w (.cells (eraCs x p).toArray 38 (0, 0)) (.cells (ansCs a pr q).toArray 45 (0, 0)))
  have H1 := Lib.hid (two_1 w (.cells (eraCs x p).toArray 38 (0, 0)) (.cells (ansCs a pr q).toArray 45 (0, 0)))
  have GX := Lib.hid (fun w' (b : Below w.heap.size w w') => (show Calls Try.prog 10 #[.agg (regCs x.reg p).toArray] w' (RetBo w' false) from by have H := great_any w' x.reg p (h.reg.mono b); rwa [hgx] at H))
  have GA := Lib.hid (fun w' (b : Below w.heap.size w w') => (show Calls Try.prog 10 #[.agg (regCs a.reg q).toArray] w' (RetBo w' false) from by have H := great_any w' a.reg q (ha.reg.mono b); rwa [hga] at H))
  have WN := Lib.hid (fun w' (b : Below w.heap.size w w') => wants_any w' x p (h.mono b))
  have TL := Lib.hid (fun w' (b : Below w.heap.size w w') => told_err w' x p a pr q (h.mono b) (ha.mono b) hw he)
  have SM := Lib.hid (fun w' (b : Below w.heap.size w w') => rsame_refl w' zeroEra zeroRegA zeroRegA (zeroEra_at w') (zeroEra_at w'))
  have te : (a.rep.err == 0) = false := by rw [beq_eq_false_iff_ne]; exact he
  have HW := hw
  clear h ha hgx hga he hw
  unfold RetW RetE at *
  generalize wantsS x = want at *
  unfold eraCs ansCs
  go_enter Try.func4, Try.ntmps4
  go_wp2_with fail
  refine (GX.out _ (bthen (BA.out w _) (BA.out _ _))).mono ?_
  rintro e w1 ⟨rfl, b1⟩
  have f0 := own_cell2 b1 15 (v := .int .u8 (a.reg.kind : Int)) rfl
  have f1 := own_cell2 b1 16 (v := .int .u64 (a.reg.inc : Int)) rfl
  have f2 := own_cell2 b1 17 (v := .int .i64 a.reg.state) rfl
  have f3 := own_cell2 b1 18 (v := .slice q.va a.reg.vars.length q.vc) rfl
  have f4 := own_cell2 b1 19 (v := .slice q.da a.reg.done.length q.dc) rfl
  have f5 := own_cell2 b1 20 (v := .slice q.oa a.reg.out.length q.oc) rfl
  have f6 := own_cell2 b1 21 (v := .int .u64 (a.reg.last : Int)) rfl
  have f7 := own_cell2 b1 22 (v := .slice q.ma a.reg.marks.length q.mc) rfl
  have ce := own_cell2 b1 11 (v := .int .i64 a.rep.err) rfl
  have z0 := Lib.hid (block_up b1 H0.out)
  have z1 := Lib.hid (block_up b1 H1.out)
  have BB := Lib.hid (bthen (bthen (BA.out w _) (BA.out _ _)) b1)
  clear b1 H0 H1
  go_wp2_with fail
  refine (GA.out _ BB.out).mono ?_
  rintro e w2 ⟨rfl, b2⟩
  have ce2 := cell_up b2 ce
  have y0 := Lib.hid (block_up b2 z0.out)
  have y1 := Lib.hid (block_up b2 z1.out)
  have B2 := Lib.hid (bthen BB.out b2)
  clear f0 f1 f2 f3 f4 f5 f6 f7 ce b2 z0 z1 BB
  go_wp2_with (refine wpList_load_row rfl 38 (.tmp 2) rfl w.heap.size rfl 38 (eraCs x p).toArray _ _ y0.out Try.underlying38 rfl era_info ?_)
  refine (WN.out _ B2.out).mono ?_
  rintro e w3 ⟨rfl, b3⟩
  go_wp2_with (first
    | (refine wpList_store_gen rfl 40 (.tmp 5) (.tmp 27) rfl w3.heap.size (opCs want.1).toArray (by rfl) (by rfl) 40 (opCs zeroOp).toArray (heap_alloc_new w3 _) op_info rfl (op_one _) ?_
       intro w4 hw4
       have b4 := Lib.hid (bthen b3 (show Below w3.heap.size w3 w4 by rw [hw4]; exact below_row (BA.out w3 _) (Nat.le_refl _) _))
       clear hw4)
    | (refine wpList_load_row rfl 38 (.tmp 2) rfl w.heap.size rfl 38 (eraCs x p).toArray _ _ (block_up b4.out y0.out) Try.underlying38 rfl era_info ?_)
    | (refine wpList_load_row rfl 45 (.tmp 3) rfl (w.heap.size + 1) rfl 45 (ansCs a pr q).toArray _ _ (block_up b4.out y1.out) Try.underlying45 rfl ans_info ?_))
  refine (TL.out _ (bthen B2.out b4.out)).mono ?_
  rintro e w5 ⟨rfl, b5⟩
  have B5 := Lib.hid (bthen (bthen B2.out b4.out) b5)
  have x0 := Lib.hid (block_up b5 (block_up b4.out y0.out))
  clear b4 b5 b3
  go_wp2_with (first
    | (refine wpList_store_gen rfl 38 (.tmp 8) (.tmp 32) rfl w5.heap.size (eraCs zeroEra zeroRegA).toArray (by rfl) (by rfl) 38 (eraCs zeroEra zeroRegA).toArray (heap_alloc_new w5 _) era_info rfl (era_one _ _) ?_
       intro w6 hw6
       have b6 := Lib.hid (show Below w5.heap.size w5 w6 by rw [hw6]; exact below_row (BA.out w5 _) (Nat.le_refl _) _)
       have z8 := Lib.hid (show w6.heap[w5.heap.size]? = some (.cells (eraCs zeroEra zeroRegA).toArray 38 (0, 0)) by rw [hw6]; exact setRow_heap _ _ _ _ _ _ (heap_alloc_new w5 (.cells (eraCs zeroEra zeroRegA).toArray 38 (0, 0))))
       clear hw6)
    | (refine wpList_load_wanted (by rfl) 38 (.tmp 8) rfl w5.heap.size rfl 38 (eraCs zeroEra zeroRegA).toArray _ _ z8.out Try.underlying38 rfl era_info ?_)
    | (refine wpList_load_wanted (by rfl) 38 (.tmp 2) rfl w.heap.size rfl 38 (eraCs x p).toArray _ _ (block_up b6.out x0.out) Try.underlying38 rfl era_info ?_))
  refine (SM.out _ (bthen B5.out b6.out)).mono ?_
  rintro e w7 ⟨rfl, b7⟩
  go_wp2_with fail
  refine (AW.out _).mono ?_
  rintro e w9 ⟨rfl, b9⟩
  go_wp2_with fail
  go_ret
  exact retBo rfl (bthen (bthen (bthen B5.out b6.out) b7) b9)

set_option maxRecDepth 10000 in
theorem stops_not (w : World) (x : EraD) (p : RegA) (a : AnsD) (pr : RepA) (q : RegA) (h : EraAt w x p) (ha : AnsAt w a pr q) (hgx : greatS x.reg = false) (hga : greatS a.reg = false) (he : a.rep.err ≠ 0) (hw : (wantsS x).2.2 = false) :
    Calls Try.prog 4 #[.agg (eraCs x p).toArray, .agg (ansCs a pr q).toArray] w (RetBo w true) := by
  have BA := Lib.hid (fun w o => balloc w o)
  have AW := Lib.hid (fun w' => awake_any w')
  have H0 := Lib.hid (two_0 w (.cells (eraCs x p).toArray 38 (0, 0)) (.cells (ansCs a pr q).toArray 45 (0, 0)))
  have H1 := Lib.hid (two_1 w (.cells (eraCs x p).toArray 38 (0, 0)) (.cells (ansCs a pr q).toArray 45 (0, 0)))
  have GX := Lib.hid (fun w' (b : Below w.heap.size w w') => (show Calls Try.prog 10 #[.agg (regCs x.reg p).toArray] w' (RetBo w' false) from by have H := great_any w' x.reg p (h.reg.mono b); rwa [hgx] at H))
  have GA := Lib.hid (fun w' (b : Below w.heap.size w w') => (show Calls Try.prog 10 #[.agg (regCs a.reg q).toArray] w' (RetBo w' false) from by have H := great_any w' a.reg q (ha.reg.mono b); rwa [hga] at H))
  have WN := Lib.hid (fun w' (b : Below w.heap.size w w') => wants_any w' x p (h.mono b))
  have TL := Lib.hid (fun w' (b : Below w.heap.size w w') => told_not w' x p a pr q (h.mono b) (ha.mono b) hw)
  have SM := Lib.hid (fun w' (b : Below w.heap.size w w') => rsame_refl w' x p p (h.mono b) (h.mono b))
  have te : (a.rep.err == 0) = false := by rw [beq_eq_false_iff_ne]; exact he
  have HW := hw
  clear h ha hgx hga he hw
  unfold RetW RetE at *
  generalize wantsS x = want at *
  unfold eraCs ansCs
  go_enter Try.func4, Try.ntmps4
  go_wp2_with fail
  refine (GX.out _ (bthen (BA.out w _) (BA.out _ _))).mono ?_
  rintro e w1 ⟨rfl, b1⟩
  have f0 := own_cell2 b1 15 (v := .int .u8 (a.reg.kind : Int)) rfl
  have f1 := own_cell2 b1 16 (v := .int .u64 (a.reg.inc : Int)) rfl
  have f2 := own_cell2 b1 17 (v := .int .i64 a.reg.state) rfl
  have f3 := own_cell2 b1 18 (v := .slice q.va a.reg.vars.length q.vc) rfl
  have f4 := own_cell2 b1 19 (v := .slice q.da a.reg.done.length q.dc) rfl
  have f5 := own_cell2 b1 20 (v := .slice q.oa a.reg.out.length q.oc) rfl
  have f6 := own_cell2 b1 21 (v := .int .u64 (a.reg.last : Int)) rfl
  have f7 := own_cell2 b1 22 (v := .slice q.ma a.reg.marks.length q.mc) rfl
  have ce := own_cell2 b1 11 (v := .int .i64 a.rep.err) rfl
  have z0 := Lib.hid (block_up b1 H0.out)
  have z1 := Lib.hid (block_up b1 H1.out)
  have BB := Lib.hid (bthen (bthen (BA.out w _) (BA.out _ _)) b1)
  clear b1 H0 H1
  go_wp2_with fail
  refine (GA.out _ BB.out).mono ?_
  rintro e w2 ⟨rfl, b2⟩
  have ce2 := cell_up b2 ce
  have y0 := Lib.hid (block_up b2 z0.out)
  have y1 := Lib.hid (block_up b2 z1.out)
  have B2 := Lib.hid (bthen BB.out b2)
  clear f0 f1 f2 f3 f4 f5 f6 f7 ce b2 z0 z1 BB
  go_wp2_with (refine wpList_load_row rfl 38 (.tmp 2) rfl w.heap.size rfl 38 (eraCs x p).toArray _ _ y0.out Try.underlying38 rfl era_info ?_)
  refine (WN.out _ B2.out).mono ?_
  rintro e w3 ⟨rfl, b3⟩
  go_wp2_with (first
    | (refine wpList_store_gen rfl 40 (.tmp 5) (.tmp 27) rfl w3.heap.size (opCs want.1).toArray (by rfl) (by rfl) 40 (opCs zeroOp).toArray (heap_alloc_new w3 _) op_info rfl (op_one _) ?_
       intro w4 hw4
       have b4 := Lib.hid (bthen b3 (show Below w3.heap.size w3 w4 by rw [hw4]; exact below_row (BA.out w3 _) (Nat.le_refl _) _))
       clear hw4)
    | (refine wpList_load_row rfl 38 (.tmp 2) rfl w.heap.size rfl 38 (eraCs x p).toArray _ _ (block_up b4.out y0.out) Try.underlying38 rfl era_info ?_)
    | (refine wpList_load_row rfl 45 (.tmp 3) rfl (w.heap.size + 1) rfl 45 (ansCs a pr q).toArray _ _ (block_up b4.out y1.out) Try.underlying45 rfl ans_info ?_))
  refine (TL.out _ (bthen B2.out b4.out)).mono ?_
  rintro e w5 ⟨rfl, b5⟩
  have B5 := Lib.hid (bthen (bthen B2.out b4.out) b5)
  have x0 := Lib.hid (block_up b5 (block_up b4.out y0.out))
  clear b4 b5 b3
  go_wp2_with (first
    | (refine wpList_store_gen rfl 38 (.tmp 8) (.tmp 32) rfl w5.heap.size (eraCs x p).toArray (by rfl) (by rfl) 38 (eraCs zeroEra zeroRegA).toArray (heap_alloc_new w5 _) era_info rfl (era_one _ _) ?_
       intro w6 hw6
       have b6 := Lib.hid (show Below w5.heap.size w5 w6 by rw [hw6]; exact below_row (BA.out w5 _) (Nat.le_refl _) _)
       have z8 := Lib.hid (show w6.heap[w5.heap.size]? = some (.cells (eraCs x p).toArray 38 (0, 0)) by rw [hw6]; exact setRow_heap _ _ _ _ _ _ (heap_alloc_new w5 (.cells (eraCs zeroEra zeroRegA).toArray 38 (0, 0))))
       clear hw6)
    | (refine wpList_load_wanted (by rfl) 38 (.tmp 8) rfl w5.heap.size rfl 38 (eraCs x p).toArray _ _ z8.out Try.underlying38 rfl era_info ?_)
    | (refine wpList_load_wanted (by rfl) 38 (.tmp 2) rfl w.heap.size rfl 38 (eraCs x p).toArray _ _ (block_up b6.out x0.out) Try.underlying38 rfl era_info ?_))
  refine (SM.out _ (bthen B5.out b6.out)).mono ?_
  rintro e w7 ⟨rfl, b7⟩
  go_wp2_with fail
  refine (AW.out _).mono ?_
  rintro e w9 ⟨rfl, b9⟩
  go_wp2_with fail
  go_ret
  exact retBo rfl (bthen (bthen (bthen B5.out b6.out) b7) b9)

/-- the law's walk -/
theorem eraseStopsW (w : World) (x : EraD) (p : RegA) (h : EraAt w x p) (a : AnsD) (pr : RepA) (q : RegA) (ha : AnsAt w a pr q) :
    Calls Try.prog 4 #[.agg (eraCs x p).toArray, .agg (ansCs a pr q).toArray] w (RetBo w true) := by
  cases hgx : greatS x.reg
  · cases hga : greatS a.reg
    · by_cases he : a.rep.err = 0
      · exact stops_ok w x p a pr q h ha hgx hga he
      · cases hw : (wantsS x).2.2
        · exact stops_not w x p a pr q h ha hgx hga he hw
        · exact stops_wants w x p a pr q h ha hgx hga he hw
    · exact stops_ga w x p a pr q h ha hgx hga
  · exact stops_gx w x p a pr q h ha hgx
end Rg
end Go.Proofs.Ytiaogfjmhpkcmaa
