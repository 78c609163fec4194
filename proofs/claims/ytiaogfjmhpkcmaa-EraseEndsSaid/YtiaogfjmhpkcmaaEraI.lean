/- The walks of an erasing's Told that takes a register over. Conditions: the erasing and the answer can be read; the register is short. -/
import Derived.Test.YtiaogfjmhpkcmaaEraA
import Derived.Test.YtiaogfjmhpkcmaaCloF
import Derived.Deep.MidRow
namespace Go.Proofs.Ytiaogfjmhpkcmaa
open Go.RowKit
set_option linter.unusedVariables false
namespace Rg

section
variable {P : Program}
theorem list_gen {ops : Array Oper} {rest : List Oper} {a : Act} {w : World} {Q : Exit → Act → World → Prop} (h : ∀ w', w' = w → wpList P ops Q rest a w') : wpList P ops Q rest a w := h _ rfl
end
/-- a row with cells written over -/
def over (cs : Array Value) : Nat → List Value → Array Value
  | _, [] => cs
  | o, v :: r => over (cs.setIfInBounds o v) (o + 1) r
theorem setCells_row {b : Nat} {t : TypeId} : ∀ (vs : List Value) (o : Nat) (w : World) (cs : Array Value), w.heap[b]? = some (.cells cs t (0, 0)) → (w.setCells b o vs).heap[b]? = some (.cells (over cs o vs) t (0, 0))
  | [], _, _, _, h => h
  | v :: r, o, w, cs, h => setCells_row r (o + 1) _ _ (heap_setCell_same w b o cs t v h)
theorem setCells_other {b : Nat} : ∀ (vs : List Value) (o : Nat) (w : World) (k : Nat), k ≠ b → (w.setCells b o vs).heap[k]? = w.heap[k]?
  | [], _, _, _, _ => rfl
  | v :: r, o, w, k, h => by
    rw [World.setCells, setCells_other r (o + 1) _ k h, heap_setCell_other _ _ _ _ h]
theorem below_cells {B : Nat} {w : World} {b : Nat} (hb : B ≤ b) : ∀ (vs : List Value) (o : Nat) (w' : World), Below B w w' → Below B w (w'.setCells b o vs)
  | [], _, _, h => h
  | v :: r, o, w', h => below_cells hb r (o + 1) _ (below_set h hb o v)
theorem there_row {w : World} {b : Nat} {cs : Array Value} {t : TypeId} (h : w.heap[b]? = some (.cells cs t (0, 0))) (o n : Nat) (hn : o + n ≤ cs.size) : w.there b o n := fun j hj =>
  ⟨by rw [cell_of h (o + j) (v := cs[o + j]'(by omega)) (by simp)]; rfl, froz_of h _⟩

/-- an erasing that has come back, wherever its lists lie -/
def RetN (w : World) (x : EraD) (e : Ending) (w' : World) : Prop := (∃ q, e = .returned (.agg (eraCs x q).toArray) ∧ EraAt w' x q) ∧ Below w.heap.size w w'
set_option maxRecDepth 10000 in
set_option maxHeartbeats 1600000 in
theorem told_1go (w : World) (x : EraD) (p : RegA) (a : AnsD) (pr : RepA) (q : RegA) (h : EraAt w x p) (ha : AnsAt w a pr q) (hg : greatS a.reg = false) (h1 : x.phase = 1) (he : a.rep.err = 0) (hk : ¬ a.reg.kind = 1) :
    Calls Try.prog 15 #[.agg (eraCs x p).toArray, .agg (ansCs a pr q).toArray] w (RetN w (if markedB { x with reg := a.reg, at_ := 0, phase := 2 } then { x with reg := a.reg, at_ := 0, phase := 2 } else { x with reg := a.reg, at_ := 0, phase := 3 })) := by
  have BA := Lib.hid (fun w o => balloc w o)
  have WN := Lib.hid (fun w' (b : Below w.heap.size w w') => wants_any w' x p (h.mono b))
  have H0 := Lib.hid (three_0 w (.cells (eraCs x p).toArray 38 (0, 0)) (.cells (ansCs a pr q).toArray 45 (0, 0)) (.cells (eraCs zeroEra zeroRegA).toArray 38 (0, 0)))
  have H1 := Lib.hid (three_1 w (.cells (eraCs x p).toArray 38 (0, 0)) (.cells (ansCs a pr q).toArray 45 (0, 0)) (.cells (eraCs zeroEra zeroRegA).toArray 38 (0, 0)))
  have H2 := Lib.hid (three_2 w (.cells (eraCs x p).toArray 38 (0, 0)) (.cells (ansCs a pr q).toArray 45 (0, 0)) (.cells (eraCs zeroEra zeroRegA).toArray 38 (0, 0)))
  have HW : (wantsS x).2.2 = true := by unfold wantsS; rw [if_pos (.inl h1)]
  have te : (a.rep.err == 0) = true := by rw [beq_iff_eq]; exact he
  have te' : (a.rep.err != 0) = false := by rw [he]; rfl
  have tp1 : ((x.phase : Int) == 1) = true := by rw [beq_iff_eq]; omega
  have tk : ((a.reg.kind : Int) == 1) = false := by rw [beq_eq_false_iff_ne]; omega
  have CL := Lib.hid (fun w' (b : Below w.heap.size w w') => regClone_any w' a.reg q (ha.reg.mono b) hg)
  have HX := Lib.hid h
  obtain ⟨res, hres⟩ : ∃ res, res = (if markedB { x with reg := a.reg, at_ := 0, phase := 2 } then { x with reg := a.reg, at_ := 0, phase := 2 } else { x with reg := a.reg, at_ := 0, phase := 3 }) := ⟨_, rfl⟩
  rw [← hres]
  have HRES := Lib.hid hres
  clear he h1 hk hg hres
  clear h ha
  unfold RetN RetW RetR at *
  generalize wantsS x = want at *
  go_enter Try.func15, Try.ntmps15
  go_wp2_with (refine wpList_load_row rfl 38 (.tmp 2) rfl w.heap.size rfl 38 (eraCs x p).toArray _ _ H0.out Try.underlying38 rfl era_info ?_)
  refine (WN.out _ (bthen (bthen (BA.out w _) (BA.out _ _)) (BA.out _ _))).mono ?_
  rintro e w1 ⟨rfl, b1⟩
  have z0 := Lib.hid (block_up b1 H0.out)
  have z1 := Lib.hid (block_up b1 H1.out)
  have z2 := Lib.hid (block_up b1 H2.out)
  have BB := Lib.hid (bthen (bthen (bthen (BA.out w _) (BA.out _ _)) (BA.out _ _)) b1)
  have hs := b1.size
  simp only [World.size_alloc] at hs
  clear b1 WN H0 H1 H2
  go_wp2_with (first
    | (refine wpList_store_gen rfl 40 (.tmp 5) (.tmp 12) rfl w1.heap.size (opCs want.1).toArray (by rfl) (by rfl) 40 (opCs zeroOp).toArray (heap_alloc_new w1 _) op_info rfl (op_one _) ?_
       intro w2 hw2
       have b2 := Lib.hid (show Below w1.heap.size w1 w2 by rw [hw2]; exact below_row (BA.out w1 _) (Nat.le_refl _) _)
       clear hw2)
    | (refine wpList_store_gen rfl 38 (.tmp 8) (.tmp 18) rfl w2.heap.size (eraCs zeroEra zeroRegA).toArray (by rfl) (by rfl) 38 (eraCs zeroEra zeroRegA).toArray (heap_alloc_new w2 _) era_info rfl (era_one _ _) ?_
       intro w3 hw3
       have b3 := Lib.hid (show Below w2.heap.size w2 w3 by rw [hw3]; exact below_row (BA.out w2 _) (Nat.le_refl _) _)
       have z8 := Lib.hid (show w3.heap[w2.heap.size]? = some (.cells (eraCs zeroEra zeroRegA).toArray 38 (0, 0)) by rw [hw3]; exact setRow_heap _ _ _ _ _ _ (heap_alloc_new w2 (.cells (eraCs zeroEra zeroRegA).toArray 38 (0, 0))))
       have b23 := Lib.hid (bthen b2.out b3.out)
       have ce := blk_cell (block_up b23.out z1.out) 11 (v := .int .i64 a.rep.err) rfl
       have ck := blk_cell (block_up b23.out z1.out) 15 (v := .int .u8 (a.reg.kind : Int)) rfl
       have cp := blk_cell (block_up b23.out z0.out) 1 (v := .int .u8 (x.phase : Int)) rfl
       have y0 := blk_cell (block_up b23.out z1.out) 15 (v := .int .u8 (a.reg.kind : Int)) rfl
       have y1 := blk_cell (block_up b23.out z1.out) 16 (v := .int .u64 (a.reg.inc : Int)) rfl
       have y2 := blk_cell (block_up b23.out z1.out) 17 (v := .int .i64 a.reg.state) rfl
       have y3 := blk_cell (block_up b23.out z1.out) 18 (v := .slice q.va a.reg.vars.length q.vc) rfl
       have y4 := blk_cell (block_up b23.out z1.out) 19 (v := .slice q.da a.reg.done.length q.dc) rfl
       have y5 := blk_cell (block_up b23.out z1.out) 20 (v := .slice q.oa a.reg.out.length q.oc) rfl
       have y6 := blk_cell (block_up b23.out z1.out) 21 (v := .int .u64 (a.reg.last : Int)) rfl
       have y7 := blk_cell (block_up b23.out z1.out) 22 (v := .slice q.ma a.reg.marks.length q.mc) rfl
       clear hw3))
  refine (CL.out _ (bthen BB.out b23.out)).mono ?_
  rintro e w4 ⟨⟨n, rfl, hn⟩, b4⟩
  have b24 := Lib.hid (bthen b23.out b4)
  clear ce ck cp y0 y1 y2 y3 y4 y5 y6 y7 z8
  have Y0 := Lib.hid (block_up b24.out z0.out)
  have Y2 := Lib.hid (block_up b24.out z2.out)
  have hsz : w.heap.size + 3 ≤ w3.heap.size := by have := b23.out.size; omega
  have HN := Lib.hid hn
  have BB4 := Lib.hid (bthen (bthen BB.out b23.out) b4)
  clear hn b4 b24 b23 BB z0 z1 z2
  go_wp2_with (first
    | (refine wpList_store_mid rfl 28 (.tmp 36) (.tmp 35) rfl w.heap.size 3 (regCs a.reg n).toArray rfl rfl ?_ reg_info (reg_one _ _) ?_
       exact there_row Y0.out 3 8 (by simp [eraCs])
       refine list_gen ?_
       intro w5 hw5
       have V0 : Hid (w5.heap[w.heap.size]? = some (.cells (eraCs { x with reg := a.reg } n).toArray 38 (0, 0))) := Lib.hid (by rw [hw5, setCells_row _ 3 _ _ Y0.out]; simp only [over, eraCs, regCs, List.setIfInBounds_toArray, List.set_cons_succ, List.set_cons_zero]; try rfl)
       have VK : Hid (∀ k, k ≠ w.heap.size → w5.heap[k]? = w4.heap[k]?) := Lib.hid (fun k hk => by rw [hw5]; exact setCells_other _ _ _ _ hk)
       have VB : Hid (Below w.heap.size w w5) := Lib.hid (by rw [hw5]; exact below_cells (Nat.le_refl _) _ _ _ BB4.out)
       have o11 := cell_of V0.out 11 (v := .int .i64 x.at_) rfl
       have o1 := cell_of V0.out 1 (v := .int .u8 (x.phase : Int)) rfl
       have f11 := froz_of V0.out 11
       have f1 := froz_of V0.out 1
       have G5 : Hid ((((w5.setCell ⟨w.heap.size, 11, none⟩ (.int .i64 0)).setCell ⟨w.heap.size, 1, none⟩ (.int .u8 2))).heap[w.heap.size]? = some (.cells (eraCs { x with reg := a.reg, at_ := 0, phase := 2 } n).toArray 38 (0, 0))) := Lib.hid (by rw [heap_setCell_same _ _ _ _ _ _ (heap_setCell_same _ _ _ _ _ _ V0.out)]; simp only [eraCs, List.setIfInBounds_toArray, List.set_cons_succ, List.set_cons_zero]; try rfl)
       clear hw5)
    | (refine wpList_load_wanted (by rfl) 38 (.tmp 2) rfl w.heap.size rfl 38 (eraCs { x with reg := a.reg, at_ := 0, phase := 2 } n).toArray (0, 0) _ ?_ Try.underlying38 rfl era_info ?_
       exact G5.out))
  have OTH : Hid (∀ k, k ≠ w.heap.size → (((w5.setCell ⟨w.heap.size, 11, none⟩ (.int .i64 0)).setCell ⟨w.heap.size, 1, none⟩ (.int .u8 2))).heap[k]? = w4.heap[k]?) := Lib.hid (fun k hk => by rw [heap_setCell_other _ _ _ _ hk, heap_setCell_other _ _ _ _ hk]; exact VK.out k hk)
  have RO : Hid (RegOwn (((w5.setCell ⟨w.heap.size, 11, none⟩ (.int .i64 0)).setCell ⟨w.heap.size, 1, none⟩ (.int .u8 2))) w3.heap.size a.reg n) := Lib.hid (HN.out.from (fun b hb _ => OTH.out b (by omega)))
  have NE : Hid (EraAt (((w5.setCell ⟨w.heap.size, 11, none⟩ (.int .i64 0)).setCell ⟨w.heap.size, 1, none⟩ (.int .u8 2))) { x with reg := a.reg, at_ := 0, phase := 2 } n) := Lib.hid ⟨HX.out.key, by unfold U8; simp only; omega, HX.out.conf, RO.out.reg, by unfold I64; simp only; omega, HX.out.b, HX.out.visited, HX.out.erased⟩
  have Z2 : Hid ((((w5.setCell ⟨w.heap.size, 11, none⟩ (.int .i64 0)).setCell ⟨w.heap.size, 1, none⟩ (.int .u8 2))).heap[w.heap.size + 2]? = some (.cells (eraCs zeroEra zeroRegA).toArray 38 (0, 0))) := Lib.hid (by rw [OTH.out _ (by omega)]; exact Y2.out)
  have BC : Hid (Below w.heap.size w (((w5.setCell ⟨w.heap.size, 11, none⟩ (.int .i64 0)).setCell ⟨w.heap.size, 1, none⟩ (.int .u8 2)))) := Lib.hid (below_set (below_set VB.out (Nat.le_refl _) _ _) (Nat.le_refl _) _ _)
  refine (marked_any _ _ _ NE.out).mono ?_
  rintro e w6 ⟨rfl, b6⟩
  have U0 := block_up b6 G5.out
  have U2 := Lib.hid (block_up b6 Z2.out)
  have R6 := Lib.hid (RO.out.from (w' := w6) (fun b hb hl => b6.block b hl))
  have B6 := Lib.hid (bthen BC.out b6)
  have q1 := cell_of U0 1 (v := .int .u8 2) rfl
  have r1 := froz_of U0 1
  have W0 : Hid ((w6.setCell ⟨w.heap.size, 1, none⟩ (.int .u8 3)).heap[w.heap.size]? = some (.cells (eraCs { x with reg := a.reg, at_ := 0, phase := 3 } n).toArray 38 (0, 0))) := Lib.hid (by rw [heap_setCell_same _ _ _ _ _ _ U0]; simp only [eraCs, List.setIfInBounds_toArray, List.set_cons_succ, List.set_cons_zero]; try rfl)
  have W2 : Hid ((w6.setCell ⟨w.heap.size, 1, none⟩ (.int .u8 3)).heap[w.heap.size + 2]? = some (.cells (eraCs zeroEra zeroRegA).toArray 38 (0, 0))) := Lib.hid (by rw [heap_setCell_other _ _ _ _ (by simp)]; exact U2.out)
  have U0' := Lib.hid U0
  clear U0 b6 o11 o1 f11 f1 V0 VK VB G5 OTH RO NE Z2 BC
  cases hm : markedB { x with reg := a.reg, at_ := 0, phase := 2 }
  · have hr : res = { x with reg := a.reg, at_ := 0, phase := 3 } := by rw [HRES.out, hm]; rfl
    subst hr
    go_wp2_with (first
      | (refine wpList_load_row rfl 38 (.tmp 2) rfl w.heap.size rfl 38 (eraCs { x with reg := a.reg, at_ := 0, phase := 3 } n).toArray (0, 0) _ ?_ Try.underlying38 rfl era_info ?_
         exact W0.out)
      | (refine wpList_store_row rfl 38 (.tmp 4) (.tmp 80) rfl (w.heap.size + 2) (eraCs { x with reg := a.reg, at_ := 0, phase := 3 } n).toArray (by rfl) (by rfl) 38 (eraCs zeroEra zeroRegA).toArray ?_ era_info rfl (era_one _ _) ?_
         exact W2.out))
    refine bodyPost_ret (results_cell_row rfl _ _ _ _ (eraCs { x with reg := a.reg, at_ := 0, phase := 3 } n).toArray _ _ rfl (setRow_heap _ _ _ (eraCs { x with reg := a.reg, at_ := 0, phase := 3 } n).toArray _ _ W2.out) Try.underlying38 rfl era_info) rfl ⟨⟨n, rfl, ?_⟩, ?_⟩
    · have hr := R6.out.from (w' := (w6.setCell ⟨w.heap.size, 1, none⟩ (.int .u8 3)).setRow (w.heap.size + 2) (eraCs { x with reg := a.reg, at_ := 0, phase := 3 } n).toArray) (fun b hb _ => by rw [setRow_other _ _ _ _ (by omega), heap_setCell_other _ _ _ _ (by simp only; omega)])
      exact ⟨HX.out.key, by unfold U8; simp only; omega, HX.out.conf, hr.reg, by unfold I64; simp only; omega, HX.out.b, HX.out.visited, HX.out.erased⟩
    · exact below_row (below_set B6.out (Nat.le_refl _) _ _) (by omega) _
  · have hr : res = { x with reg := a.reg, at_ := 0, phase := 2 } := by rw [HRES.out, hm]; rfl
    subst hr
    go_wp2_with (first
      | (refine wpList_load_row rfl 38 (.tmp 2) rfl w.heap.size rfl 38 (eraCs { x with reg := a.reg, at_ := 0, phase := 2 } n).toArray (0, 0) _ ?_ Try.underlying38 rfl era_info ?_
         exact U0'.out)
      | (refine wpList_store_row rfl 38 (.tmp 4) (.tmp 80) rfl (w.heap.size + 2) (eraCs { x with reg := a.reg, at_ := 0, phase := 2 } n).toArray (by rfl) (by rfl) 38 (eraCs zeroEra zeroRegA).toArray ?_ era_info rfl (era_one _ _) ?_
         exact U2.out))
    refine bodyPost_ret (results_cell_row rfl _ _ _ _ (eraCs { x with reg := a.reg, at_ := 0, phase := 2 } n).toArray _ _ rfl (setRow_heap _ _ _ (eraCs { x with reg := a.reg, at_ := 0, phase := 2 } n).toArray _ _ U2.out) Try.underlying38 rfl era_info) rfl ⟨⟨n, rfl, ?_⟩, ?_⟩
    · have hr := R6.out.from (w' := w6.setRow (w.heap.size + 2) (eraCs { x with reg := a.reg, at_ := 0, phase := 2 } n).toArray) (fun b hb _ => setRow_other _ _ _ _ (by omega))
      exact ⟨HX.out.key, by unfold U8; simp only; omega, HX.out.conf, hr.reg, by unfold I64; simp only; omega, HX.out.b, HX.out.visited, HX.out.erased⟩
    · exact below_row B6.out (by omega) _

end Rg
end Go.Proofs.Ytiaogfjmhpkcmaa
