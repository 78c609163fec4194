/- The walks of an erasing's Told where it stops. Conditions: the erasing and the answer can be read. -/
import Derived.Test.YtiaogfjmhpkcmaaEraV
import Derived.Test.YtiaogfjmhpkcmaaEraY
namespace Go.Proofs.Ytiaogfjmhpkcmaa
open Go.RowKit
set_option linter.unusedVariables false
namespace Rg

section
variable {P : Program}
theorem wpList_store_gen {ops : Array Oper} {rest : List Oper} {o : Oper} {a : Act} {w : World} {Q : Exit → Act → World → Prop} (hgd : o.guard = none) (ty : TypeId) (x y : Operand) (ho : o.op = .store ty x y)
    (g : Nat) (cells : Array Value) (hx : a.eval x = .pointer (some ⟨g, 0, none⟩)) (hy : a.eval y = .agg cells)
    (t : TypeId) (old : Array Value) (hg : w.heap[g]? = some (.cells old t (0, 0))) (hi : (P.info? ty).map (·.size) = some cells.size)
    (hold : old.size = cells.size) (h1 : cells.all (·.oneCell') = true)
    (h : ∀ w', w' = w.setRow g cells → wpList P ops Q rest (a.put o.dst undef) w') : wpList P ops Q (o :: rest) a w :=
  wpList_store_row hgd ty x y ho g cells hx hy t old hg hi hold h1 (h _ rfl)
end

theorem three_0 (w : World) (a b c : Obj) : (((w.alloc a).alloc b).alloc c).heap[w.heap.size]? = some a := by
  have h := heap_alloc_new w a
  have h1 := block_up (balloc (w.alloc a) b) h
  exact block_up (balloc _ c) h1
theorem three_1 (w : World) (a b c : Obj) : (((w.alloc a).alloc b).alloc c).heap[w.heap.size + 1]? = some b := by
  have h := heap_alloc_new (w.alloc a) b
  rw [World.size_alloc] at h
  exact block_up (balloc _ c) h
theorem three_2 (w : World) (a b c : Obj) : (((w.alloc a).alloc b).alloc c).heap[w.heap.size + 2]? = some c := by
  have h := heap_alloc_new ((w.alloc a).alloc b) c
  rw [World.size_alloc, World.size_alloc] at h
  exact h
theorem blk_cell {w : World} {g : Nat} {cs : Array Value} {t : TypeId} {fr : Nat × Nat} (h : w.heap[g]? = some (.cells cs t fr)) (i : Nat) {v : Value} (hv : cs[i]? = some v) : w.cell? ⟨g, i, none⟩ = some v := by
  simp [World.cell?, h, hv]

set_option maxRecDepth 10000 in
theorem told_not (w : World) (x : EraD) (p : RegA) (a : AnsD) (pr : RepA) (q : RegA) (h : EraAt w x p) (ha : AnsAt w a pr q) (hw : (wantsS x).2.2 = false) :
    Calls Try.prog 15 #[.agg (eraCs x p).toArray, .agg (ansCs a pr q).toArray] w (RetE w x p) := by
  have BA := Lib.hid (fun w o => balloc w o)
  have WN := Lib.hid (fun w' (b : Below w.heap.size w w') => wants_any w' x p (h.mono b))
  have H0 := Lib.hid (three_0 w (.cells (eraCs x p).toArray 38 (0, 0)) (.cells (ansCs a pr q).toArray 45 (0, 0)) (.cells (eraCs zeroEra zeroRegA).toArray 38 (0, 0)))
  have H1 := Lib.hid (three_1 w (.cells (eraCs x p).toArray 38 (0, 0)) (.cells (ansCs a pr q).toArray 45 (0, 0)) (.cells (eraCs zeroEra zeroRegA).toArray 38 (0, 0)))
  have H2 := Lib.hid (three_2 w (.cells (eraCs x p).toArray 38 (0, 0)) (.cells (ansCs a pr q).toArray 45 (0, 0)) (.cells (eraCs zeroEra zeroRegA).toArray 38 (0, 0)))
  have HW := hw
  clear hw
  clear h ha
  unfold RetE RetW at *
  generalize wantsS x = want at *
  go_enter Try.func15, Try.ntmps15
  go_wp2_with (refine wpList_load_row rfl 38 (.tmp 2) rfl w.heap.size rfl 38 (eraCs x p).toArray _ _ H0.out Try.underlying38 rfl era_info ?_)
  refine (WN.out _ (bthen (bthen (BA.out w _) (BA.out _ _)) (BA.out _ _))).mono ?_
  rintro e w1 ⟨rfl, b1⟩
  have z0 := Lib.hid (block_up b1 H0.out)
  have z1 := Lib.hid (block_up b1 H1.out)
  have z2 := Lib.hid (block_up b1 H2.out)
  have BB := Lib.hid (bthen (bthen (bthen (BA.out w _) (BA.out _ _)) (BA.out _ _)) b1)
  have hs := b1.size
  simp only [World.size_alloc] at hs
  clear b1 WN H0 H1 H2
  go_wp2_with (first
    | (refine wpList_store_gen rfl 40 (.tmp 5) (.tmp 12) rfl w1.heap.size (opCs want.1).toArray (by rfl) (by rfl) 40 (opCs zeroOp).toArray (heap_alloc_new w1 _) op_info rfl (op_one _) ?_
       intro w2 hw2
       have b2 := Lib.hid (show Below w1.heap.size w1 w2 by rw [hw2]; exact below_row (BA.out w1 _) (Nat.le_refl _) _)
       clear hw2)
    | (refine wpList_load_row rfl 38 (.tmp 2) rfl w.heap.size rfl 38 (eraCs x p).toArray _ _ (block_up b2.out z0.out) Try.underlying38 rfl era_info ?_)
    | (refine wpList_store_row rfl 38 (.tmp 4) (.tmp 17) rfl (w.heap.size + 2) (eraCs x p).toArray (by rfl) (by rfl) 38 (eraCs zeroEra zeroRegA).toArray (block_up b2.out z2.out) era_info rfl (era_one _ _) ?_))
  refine bodyPost_ret (results_cell_row rfl _ _ _ _ (eraCs x p).toArray _ _ rfl (setRow_heap _ _ _ (eraCs x p).toArray _ _ (block_up b2.out z2.out)) Try.underlying38 rfl era_info) rfl ⟨rfl, ?_⟩
  exact below_row (bthen BB.out b2.out) (by omega) _
set_option maxRecDepth 10000 in
theorem told_err (w : World) (x : EraD) (p : RegA) (a : AnsD) (pr : RepA) (q : RegA) (h : EraAt w x p) (ha : AnsAt w a pr q) (hw : (wantsS x).2.2 = true) (he : a.rep.err ≠ 0) :
    Calls Try.prog 15 #[.agg (eraCs x p).toArray, .agg (ansCs a pr q).toArray] w (RetE w zeroEra zeroRegA) := by
  have BA := Lib.hid (fun w o => balloc w o)
  have WN := Lib.hid (fun w' (b : Below w.heap.size w w') => wants_any w' x p (h.mono b))
  have H0 := Lib.hid (three_0 w (.cells (eraCs x p).toArray 38 (0, 0)) (.cells (ansCs a pr q).toArray 45 (0, 0)) (.cells (eraCs zeroEra zeroRegA).toArray 38 (0, 0)))
  have H1 := Lib.hid (three_1 w (.cells (eraCs x p).toArray 38 (0, 0)) (.cells (ansCs a pr q).toArray 45 (0, 0)) (.cells (eraCs zeroEra zeroRegA).toArray 38 (0, 0)))
  have H2 := Lib.hid (three_2 w (.cells (eraCs x p).toArray 38 (0, 0)) (.cells (ansCs a pr q).toArray 45 (0, 0)) (.cells (eraCs zeroEra zeroRegA).toArray 38 (0, 0)))
  have HW := hw
  clear hw
  have te : (a.rep.err == 0) = false := by rw [beq_eq_false_iff_ne]; exact he
  have te' : (a.rep.err != 0) = true := by rw [bne_iff_ne]; exact he
  clear he
  clear h ha
  unfold RetE RetW at *
  generalize wantsS x = want at *
  go_enter Try.func15, Try.ntmps15
  go_wp2_with (refine wpList_load_row rfl 38 (.tmp 2) rfl w.heap.size rfl 38 (eraCs x p).toArray _ _ H0.out Try.underlying38 rfl era_info ?_)
  refine (WN.out _ (bthen (bthen (BA.out w _) (BA.out _ _)) (BA.out _ _))).mono ?_
  rintro e w1 ⟨rfl, b1⟩
  have z0 := Lib.hid (block_up b1 H0.out)
  have z1 := Lib.hid (block_up b1 H1.out)
  have z2 := Lib.hid (block_up b1 H2.out)
  have BB := Lib.hid (bthen (bthen (bthen (BA.out w _) (BA.out _ _)) (BA.out _ _)) b1)
  have hs := b1.size
  simp only [World.size_alloc] at hs
  clear b1 WN H0 H1 H2
  go_wp2_with (first
    | (refine wpList_store_gen rfl 40 (.tmp 5) (.tmp 12) rfl w1.heap.size (opCs want.1).toArray (by rfl) (by rfl) 40 (opCs zeroOp).toArray (heap_alloc_new w1 _) op_info rfl (op_one _) ?_
       intro w2 hw2
       have b2 := Lib.hid (show Below w1.heap.size w1 w2 by rw [hw2]; exact below_row (BA.out w1 _) (Nat.le_refl _) _)
       clear hw2)
    | (refine wpList_store_gen rfl 38 (.tmp 8) (.tmp 18) rfl w2.heap.size (eraCs zeroEra zeroRegA).toArray (by rfl) (by rfl) 38 (eraCs zeroEra zeroRegA).toArray (heap_alloc_new w2 _) era_info rfl (era_one _ _) ?_
       intro w3 hw3
       have b3 := Lib.hid (show Below w2.heap.size w2 w3 by rw [hw3]; exact below_row (BA.out w2 _) (Nat.le_refl _) _)
       have z8 := Lib.hid (show w3.heap[w2.heap.size]? = some (.cells (eraCs zeroEra zeroRegA).toArray 38 (0, 0)) by rw [hw3]; exact setRow_heap _ _ _ _ _ _ (heap_alloc_new w2 (.cells (eraCs zeroEra zeroRegA).toArray 38 (0, 0))))
       have b23 := Lib.hid (bthen b2.out b3.out)
       have ce := blk_cell (block_up b23.out z1.out) 11 (v := .int .i64 a.rep.err) rfl
       have ck := blk_cell (block_up b23.out z1.out) 15 (v := .int .u8 (a.reg.kind : Int)) rfl
       have cp := blk_cell (block_up b23.out z0.out) 1 (v := .int .u8 (x.phase : Int)) rfl
       clear hw3)
    | (refine wpList_load_row rfl 38 (.tmp 8) rfl w2.heap.size rfl 38 (eraCs zeroEra zeroRegA).toArray _ _ (z8.out) Try.underlying38 rfl era_info ?_)
    | (refine wpList_store_row rfl 38 (.tmp 4) (.tmp 23) rfl (w.heap.size + 2) (eraCs zeroEra zeroRegA).toArray (by rfl) (by rfl) 38 (eraCs zeroEra zeroRegA).toArray (block_up b23.out z2.out) era_info rfl (era_one _ _) ?_))
  refine bodyPost_ret (results_cell_row rfl _ _ _ _ (eraCs zeroEra zeroRegA).toArray _ _ rfl (setRow_heap _ _ _ (eraCs zeroEra zeroRegA).toArray _ _ (block_up b23.out z2.out)) Try.underlying38 rfl era_info) rfl ⟨rfl, ?_⟩
  exact below_row (bthen BB.out b23.out) (by omega) _
set_option maxRecDepth 10000 in
theorem told_live (w : World) (x : EraD) (p : RegA) (a : AnsD) (pr : RepA) (q : RegA) (h : EraAt w x p) (ha : AnsAt w a pr q) (h1 : x.phase = 1) (he : a.rep.err = 0) (hk : a.reg.kind = 1) :
    Calls Try.prog 15 #[.agg (eraCs x p).toArray, .agg (ansCs a pr q).toArray] w (RetE w zeroEra zeroRegA) := by
  have BA := Lib.hid (fun w o => balloc w o)
  have WN := Lib.hid (fun w' (b : Below w.heap.size w w') => wants_any w' x p (h.mono b))
  have H0 := Lib.hid (three_0 w (.cells (eraCs x p).toArray 38 (0, 0)) (.cells (ansCs a pr q).toArray 45 (0, 0)) (.cells (eraCs zeroEra zeroRegA).toArray 38 (0, 0)))
  have H1 := Lib.hid (three_1 w (.cells (eraCs x p).toArray 38 (0, 0)) (.cells (ansCs a pr q).toArray 45 (0, 0)) (.cells (eraCs zeroEra zeroRegA).toArray 38 (0, 0)))
  have H2 := Lib.hid (three_2 w (.cells (eraCs x p).toArray 38 (0, 0)) (.cells (ansCs a pr q).toArray 45 (0, 0)) (.cells (eraCs zeroEra zeroRegA).toArray 38 (0, 0)))
  have HW : (wantsS x).2.2 = true := by unfold wantsS; rw [if_pos (.inl h1)]
  have te : (a.rep.err == 0) = true := by rw [beq_iff_eq]; exact he
  have te' : (a.rep.err != 0) = false := by rw [he]; rfl
  have tp : ((x.phase : Int) == 1) = true := by rw [beq_iff_eq]; omega
  have tk : ((a.reg.kind : Int) == 1) = true := by rw [beq_iff_eq]; omega
  clear he h1 hk
  clear h ha
  unfold RetE RetW at *
  generalize wantsS x = want at *
  go_enter Try.func15, Try.ntmps15
  go_wp2_with (refine wpList_load_row rfl 38 (.tmp 2) rfl w.heap.size rfl 38 (eraCs x p).toArray _ _ H0.out Try.underlying38 rfl era_info ?_)
  refine (WN.out _ (bthen (bthen (BA.out w _) (BA.out _ _)) (BA.out _ _))).mono ?_
  rintro e w1 ⟨rfl, b1⟩
  have z0 := Lib.hid (block_up b1 H0.out)
  have z1 := Lib.hid (block_up b1 H1.out)
  have z2 := Lib.hid (block_up b1 H2.out)
  have BB := Lib.hid (bthen (bthen (bthen (BA.out w _) (BA.out _ _)) (BA.out _ _)) b1)
  have hs := b1.size
  simp only [World.size_alloc] at hs
  clear b1 WN H0 H1 H2
  go_wp2_with (first
    | (refine wpList_store_gen rfl 40 (.tmp 5) (.tmp 12) rfl w1.heap.size (opCs want.1).toArray (by rfl) (by rfl) 40 (opCs zeroOp).toArray (heap_alloc_new w1 _) op_info rfl (op_one _) ?_
       intro w2 hw2
       have b2 := Lib.hid (show Below w1.heap.size w1 w2 by rw [hw2]; exact below_row (BA.out w1 _) (Nat.le_refl _) _)
       clear hw2)
    | (refine wpList_store_gen rfl 38 (.tmp 8) (.tmp 18) rfl w2.heap.size (eraCs zeroEra zeroRegA).toArray (by rfl) (by rfl) 38 (eraCs zeroEra zeroRegA).toArray (heap_alloc_new w2 _) era_info rfl (era_one _ _) ?_
       intro w3 hw3
       have b3 := Lib.hid (show Below w2.heap.size w2 w3 by rw [hw3]; exact below_row (BA.out w2 _) (Nat.le_refl _) _)
       have z8 := Lib.hid (show w3.heap[w2.heap.size]? = some (.cells (eraCs zeroEra zeroRegA).toArray 38 (0, 0)) by rw [hw3]; exact setRow_heap _ _ _ _ _ _ (heap_alloc_new w2 (.cells (eraCs zeroEra zeroRegA).toArray 38 (0, 0))))
       have b23 := Lib.hid (bthen b2.out b3.out)
       have ce := blk_cell (block_up b23.out z1.out) 11 (v := .int .i64 a.rep.err) rfl
       have ck := blk_cell (block_up b23.out z1.out) 15 (v := .int .u8 (a.reg.kind : Int)) rfl
       have cp := blk_cell (block_up b23.out z0.out) 1 (v := .int .u8 (x.phase : Int)) rfl
       clear hw3)
    | (refine wpList_load_row rfl 38 (.tmp 8) rfl w2.heap.size rfl 38 (eraCs zeroEra zeroRegA).toArray _ _ (z8.out) Try.underlying38 rfl era_info ?_)
    | (refine wpList_store_row rfl 38 (.tmp 4) (.tmp 32) rfl (w.heap.size + 2) (eraCs zeroEra zeroRegA).toArray (by rfl) (by rfl) 38 (eraCs zeroEra zeroRegA).toArray (block_up b23.out z2.out) era_info rfl (era_one _ _) ?_))
  refine bodyPost_ret (results_cell_row rfl _ _ _ _ (eraCs zeroEra zeroRegA).toArray _ _ rfl (setRow_heap _ _ _ (eraCs zeroEra zeroRegA).toArray _ _ (block_up b23.out z2.out)) Try.underlying38 rfl era_info) rfl ⟨rfl, ?_⟩
  exact below_row (bthen BB.out b23.out) (by omega) _
end Rg
end Go.Proofs.Ytiaogfjmhpkcmaa
