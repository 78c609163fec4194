/- The walks of msg.zero, of msg.May at messages that prepare, and of the document's example. Conditions: what is handed in can be read. -/
import Derived.Test.YtniopkoaplkpkaaMsP
import Derived.Test.YtniopkoaplkpkaaMsS
namespace Go.Proofs.Ytniopkoaplkpkaa
open Go.RowKit
set_option linter.unusedVariables false
set_option linter.unusedSimpArgs false
namespace Ms
open Sy (RetV RetM Sub)
open Rg (eqT eqF retBb RegD RegA RegAt regCs BytP bytF_nil zeroReg zeroRegA zeroReg_at regB)
open Pk (numB numB_len)
set_option maxRecDepth 20000 in
theorem zero_any (w0 : World) (r : RegD) (p : RegA) (h : RegAt w0 r p) : Calls Try.prog 105 #[.agg (regCs r p).toArray] w0 (RetV w0 (.bool (decide (r = zeroReg)))) := by
  have F := Sy.Mem.start (Sub.refl w0)
  obtain ⟨va, vc, da, dc, oa, oc, ma, mc⟩ := p
  refine Sy.enter Try.func105 rfl Try.ntmps105 rfl ?_; intro ac T; simp only [Sy.enum, Nat.zero_add, Nat.reduceAdd] at T
  repeat (first
    | (((with_reducible refine Sy.is_load ?_); (first | refine Sy.st_loadOne T F (h := ?_) | refine Sy.st_oldOne T F (h := ?_) | refine Sy.st_loadAll T F (h := ?_) | (refine Sy.st_loadCut T F (h := ?_); conv => whnf) | refine Sy.st_oldAgg T F (h := ?_) | (refine Sy.st_oldCut T F (h := ?_); conv => whnf)); clear T; intro ac T))
    | (((with_reducible refine Sy.is_box ?_); (first | refine Sy.st_boxAgg T F (h := ?_) | refine Sy.st_boxOne T F (h := ?_)); clear T F; intro ac g w T F))
    | (((with_reducible refine Sy.is_build ?_); refine Sy.st_build T (h := ?_); (conv => whnf); (repeat (refine ⟨by first | exact rfl | exact ⟨rfl, rfl⟩, ?_⟩; (conv => whnf))); clear T; intro ac T))
    | (((with_reducible refine Sy.is_op ?_); refine Sy.st_pure T (h := ?_); clear T; intro ac T))
    | ((with_reducible refine Sy.atK (hK _ _ ?_)))
    | ((with_reducible refine Sy.is_cond ?_); (first | refine Sy.st_true T (h := ?_) | refine Sy.st_false T (h := ?_)))
    | (with_reducible refine wpList_nil ?_)
    | (with_reducible refine wp_region_lit ?_)
    | (with_reducible refine wp_block ?_)
    | (with_reducible refine wp_skip ?_)
    | (with_reducible refine wp_exit ?_)
    | (with_reducible refine wp_ret ?_)
    | ((with_reducible refine wp_seq_k ?_); intro _ _)
    | (go_at_K; go_step)
    | (simp only [Exit.then, Exit.inBlock, ↓reduceIte, Nat.reduceEqDiff]))
  have G := rsameM F.sub h (zeroReg_at w0); refine Sy.st_callV0 T F (hc := G) (h := ?_); (clear T F G; intro ac w T F)
  repeat (first
    | (((with_reducible refine Sy.is_load ?_); (first | refine Sy.st_loadOne T F (h := ?_) | refine Sy.st_oldOne T F (h := ?_) | refine Sy.st_loadAll T F (h := ?_) | (refine Sy.st_loadCut T F (h := ?_); conv => whnf) | refine Sy.st_oldAgg T F (h := ?_) | (refine Sy.st_oldCut T F (h := ?_); conv => whnf)); clear T; intro ac T))
    | (((with_reducible refine Sy.is_box ?_); (first | refine Sy.st_boxAgg T F (h := ?_) | refine Sy.st_boxOne T F (h := ?_)); clear T F; intro ac g w T F))
    | (((with_reducible refine Sy.is_build ?_); refine Sy.st_build T (h := ?_); (conv => whnf); (repeat (refine ⟨by first | exact rfl | exact ⟨rfl, rfl⟩, ?_⟩; (conv => whnf))); clear T; intro ac T))
    | (((with_reducible refine Sy.is_op ?_); refine Sy.st_pure T (h := ?_); clear T; intro ac T))
    | ((with_reducible refine Sy.atK (hK _ _ ?_)))
    | ((with_reducible refine Sy.is_cond ?_); (first | refine Sy.st_true T (h := ?_) | refine Sy.st_false T (h := ?_)))
    | (with_reducible refine wpList_nil ?_)
    | (with_reducible refine wp_region_lit ?_)
    | (with_reducible refine wp_block ?_)
    | (with_reducible refine wp_skip ?_)
    | (with_reducible refine wp_exit ?_)
    | (with_reducible refine wp_ret ?_)
    | ((with_reducible refine wp_seq_k ?_); intro _ _)
    | (go_at_K; go_step)
    | (simp only [Exit.then, Exit.inBlock, ↓reduceIte, Nat.reduceEqDiff]))
  ((try simp only [Exit.inBlock, Exit.then]); refine Sy.st_ret1 T F rfl (by repeat (first | exact Sy.ResV.nil | apply Sy.ResV.tmp rfl | apply Sy.ResV.row rfl rfl rfl (by repeat (first | exact Sy.Take.here | apply Sy.Take.there)) (by rfl) | apply Sy.ResV.one rfl rfl rfl (by repeat (first | exact Sy.Take.here | apply Sy.Take.there)) (by rfl))) ?_)
  exact F.retV _
/-- a message that prepares -/
def prepD (src dst key conf : Nat) (b : BalD) : MsgD := ⟨1, src, dst, key, conf, b, false, zeroBal, zeroReg, zeroBal, 0⟩
theorem prep_at (w : World) {src dst key conf : Nat} {b : BalD} (h1 : src < 64) (h2 : dst < 64) (h3 : key < 16) (h4 : conf < 18446744073709551616) (h5 : BalOk b) : MsgAt w (prepD src dst key conf b) zeroRegA := by
  refine ⟨?_, ?_, ?_, ?_, ?_, h5, ?_, zeroReg_at w, ?_, ?_⟩
  · unfold Rg.U8 prepD; simp
  · unfold Rg.U8 prepD; simp only; omega
  · unfold Rg.U8 prepD; simp only; omega
  · unfold Rg.U8 prepD; simp only; omega
  · unfold Rg.U64 prepD; simp only; omega
  · unfold BalOk prepD zeroBal; simp
  · unfold BalOk prepD zeroBal; simp
  · unfold Rg.U64 prepD; simp
set_option maxRecDepth 20000 in
set_option maxHeartbeats 4000000 in
theorem prep_may (w0 : World) {src dst key conf : Nat} {b : BalD} (h1 : src < 64) (h2 : dst < 64) (h3 : key < 16) (hb : b ≠ zeroBal) : Calls Try.prog 71 #[.agg (msgCs (prepD src dst key conf b) zeroRegA).toArray] w0 (RetV w0 (.bool true)) := by
  have F := Sy.Mem.start (Sub.refl w0)
  have t1 : decide ((src : Int) ≥ 64) = false := decide_eq_false (by omega)
  have t2 : decide ((dst : Int) ≥ 64) = false := decide_eq_false (by omega)
  have t3 : decide ((key : Int) ≥ 16) = false := decide_eq_false (by omega)
  have e1 : ((1 : Int) == 1) = true := rfl
  have e0 : ((0 : Int) == 0) = true := rfl
  refine Sy.enter Try.func71 rfl Try.ntmps71 rfl ?_; intro ac T; simp only [Sy.enum, Nat.zero_add, Nat.reduceAdd] at T
  repeat (first
    | (((with_reducible refine Sy.is_guard ?_); (first | refine Sy.st_guard T (h := ?_) | (refine Sy.st_unguard T (h := ?_); clear T; intro ac T))))
    | (((with_reducible refine Sy.is_load ?_); (first | refine Sy.st_loadOne T F (h := ?_) | refine Sy.st_oldOne T F (h := ?_) | refine Sy.st_loadAll T F (h := ?_) | (refine Sy.st_loadCut T F (h := ?_); conv => whnf) | refine Sy.st_oldAgg T F (h := ?_) | (refine Sy.st_oldCut T F (h := ?_); conv => whnf)); clear T; intro ac T))
    | (((with_reducible refine Sy.is_box ?_); (first | refine Sy.st_boxAgg T F (h := ?_) | refine Sy.st_boxOne T F (h := ?_)); clear T F; intro ac g w T F))
    | (((with_reducible refine Sy.is_op ?_); refine Sy.st_pure T (h := ?_); clear T; intro ac T))
    | ((with_reducible refine Sy.atK (hK _ _ ?_)))
    | ((with_reducible refine Sy.is_cond ?_); (first | refine Sy.st_true T (h := ?_) | refine Sy.st_false T (h := ?_)))
    | (with_reducible refine wpList_nil ?_)
    | (with_reducible refine wp_region_lit ?_)
    | (with_reducible refine wp_block ?_)
    | (with_reducible refine wp_skip ?_)
    | (with_reducible refine wp_exit ?_)
    | (with_reducible refine wp_ret ?_)
    | ((with_reducible refine wp_seq_k ?_); intro _ _)
    | (go_at_K; go_step)
    | (simp only [Exit.then, Exit.inBlock, ↓reduceIte, Nat.reduceEqDiff]))
  have G := none_any w b
  rw [decide_eq_false hb] at G
  refine Sy.st_callV0 T F (hc := G) (h := ?_); (clear T F; intro ac w T F)
  clear G
  repeat (first
    | (((with_reducible refine Sy.is_guard ?_); (first | refine Sy.st_guard T (h := ?_) | (refine Sy.st_unguard T (h := ?_); clear T; intro ac T))))
    | (((with_reducible refine Sy.is_load ?_); (first | refine Sy.st_loadOne T F (h := ?_) | refine Sy.st_oldOne T F (h := ?_) | refine Sy.st_loadAll T F (h := ?_) | (refine Sy.st_loadCut T F (h := ?_); conv => whnf) | refine Sy.st_oldAgg T F (h := ?_) | (refine Sy.st_oldCut T F (h := ?_); conv => whnf)); clear T; intro ac T))
    | (((with_reducible refine Sy.is_box ?_); (first | refine Sy.st_boxAgg T F (h := ?_) | refine Sy.st_boxOne T F (h := ?_)); clear T F; intro ac g w T F))
    | (((with_reducible refine Sy.is_op ?_); refine Sy.st_pure T (h := ?_); clear T; intro ac T))
    | ((with_reducible refine Sy.atK (hK _ _ ?_)))
    | ((with_reducible refine Sy.is_cond ?_); (first | refine Sy.st_true T (h := ?_) | refine Sy.st_false T (h := ?_)))
    | (with_reducible refine wpList_nil ?_)
    | (with_reducible refine wp_region_lit ?_)
    | (with_reducible refine wp_block ?_)
    | (with_reducible refine wp_skip ?_)
    | (with_reducible refine wp_exit ?_)
    | (with_reducible refine wp_ret ?_)
    | ((with_reducible refine wp_seq_k ?_); intro _ _)
    | (go_at_K; go_step)
    | (simp only [Exit.then, Exit.inBlock, ↓reduceIte, Nat.reduceEqDiff]))
  have G := none_any w zeroBal; refine Sy.st_callV0 T F (hc := G) (h := ?_); (clear T F G; intro ac w T F)
  repeat (first
    | (((with_reducible refine Sy.is_guard ?_); (first | refine Sy.st_guard T (h := ?_) | (refine Sy.st_unguard T (h := ?_); clear T; intro ac T))))
    | (((with_reducible refine Sy.is_load ?_); (first | refine Sy.st_loadOne T F (h := ?_) | refine Sy.st_oldOne T F (h := ?_) | refine Sy.st_loadAll T F (h := ?_) | (refine Sy.st_loadCut T F (h := ?_); conv => whnf) | refine Sy.st_oldAgg T F (h := ?_) | (refine Sy.st_oldCut T F (h := ?_); conv => whnf)); clear T; intro ac T))
    | (((with_reducible refine Sy.is_box ?_); (first | refine Sy.st_boxAgg T F (h := ?_) | refine Sy.st_boxOne T F (h := ?_)); clear T F; intro ac g w T F))
    | (((with_reducible refine Sy.is_op ?_); refine Sy.st_pure T (h := ?_); clear T; intro ac T))
    | ((with_reducible refine Sy.atK (hK _ _ ?_)))
    | ((with_reducible refine Sy.is_cond ?_); (first | refine Sy.st_true T (h := ?_) | refine Sy.st_false T (h := ?_)))
    | (with_reducible refine wpList_nil ?_)
    | (with_reducible refine wp_region_lit ?_)
    | (with_reducible refine wp_block ?_)
    | (with_reducible refine wp_skip ?_)
    | (with_reducible refine wp_exit ?_)
    | (with_reducible refine wp_ret ?_)
    | ((with_reducible refine wp_seq_k ?_); intro _ _)
    | (go_at_K; go_step)
    | (simp only [Exit.then, Exit.inBlock, ↓reduceIte, Nat.reduceEqDiff]))
  have G := none_any w zeroBal; refine Sy.st_callV0 T F (hc := G) (h := ?_); (clear T F G; intro ac w T F)
  repeat (first
    | (((with_reducible refine Sy.is_guard ?_); (first | refine Sy.st_guard T (h := ?_) | (refine Sy.st_unguard T (h := ?_); clear T; intro ac T))))
    | (((with_reducible refine Sy.is_load ?_); (first | refine Sy.st_loadOne T F (h := ?_) | refine Sy.st_oldOne T F (h := ?_) | refine Sy.st_loadAll T F (h := ?_) | (refine Sy.st_loadCut T F (h := ?_); conv => whnf) | refine Sy.st_oldAgg T F (h := ?_) | (refine Sy.st_oldCut T F (h := ?_); conv => whnf)); clear T; intro ac T))
    | (((with_reducible refine Sy.is_box ?_); (first | refine Sy.st_boxAgg T F (h := ?_) | refine Sy.st_boxOne T F (h := ?_)); clear T F; intro ac g w T F))
    | (((with_reducible refine Sy.is_op ?_); refine Sy.st_pure T (h := ?_); clear T; intro ac T))
    | ((with_reducible refine Sy.atK (hK _ _ ?_)))
    | ((with_reducible refine Sy.is_cond ?_); (first | refine Sy.st_true T (h := ?_) | refine Sy.st_false T (h := ?_)))
    | (with_reducible refine wpList_nil ?_)
    | (with_reducible refine wp_region_lit ?_)
    | (with_reducible refine wp_block ?_)
    | (with_reducible refine wp_skip ?_)
    | (with_reducible refine wp_exit ?_)
    | (with_reducible refine wp_ret ?_)
    | ((with_reducible refine wp_seq_k ?_); intro _ _)
    | (go_at_K; go_step)
    | (simp only [Exit.then, Exit.inBlock, ↓reduceIte, Nat.reduceEqDiff]))
  have G := zero_any w zeroReg zeroRegA (zeroReg_at w); refine Sy.st_callV0 T F (hc := G) (h := ?_); (clear T F G; intro ac w T F)
  repeat (first
    | (((with_reducible refine Sy.is_guard ?_); (first | refine Sy.st_guard T (h := ?_) | (refine Sy.st_unguard T (h := ?_); clear T; intro ac T))))
    | (((with_reducible refine Sy.is_load ?_); (first | refine Sy.st_loadOne T F (h := ?_) | refine Sy.st_oldOne T F (h := ?_) | refine Sy.st_loadAll T F (h := ?_) | (refine Sy.st_loadCut T F (h := ?_); conv => whnf) | refine Sy.st_oldAgg T F (h := ?_) | (refine Sy.st_oldCut T F (h := ?_); conv => whnf)); clear T; intro ac T))
    | (((with_reducible refine Sy.is_box ?_); (first | refine Sy.st_boxAgg T F (h := ?_) | refine Sy.st_boxOne T F (h := ?_)); clear T F; intro ac g w T F))
    | (((with_reducible refine Sy.is_op ?_); refine Sy.st_pure T (h := ?_); clear T; intro ac T))
    | ((with_reducible refine Sy.atK (hK _ _ ?_)))
    | ((with_reducible refine Sy.is_cond ?_); (first | refine Sy.st_true T (h := ?_) | refine Sy.st_false T (h := ?_)))
    | (with_reducible refine wpList_nil ?_)
    | (with_reducible refine wp_region_lit ?_)
    | (with_reducible refine wp_block ?_)
    | (with_reducible refine wp_skip ?_)
    | (with_reducible refine wp_exit ?_)
    | (with_reducible refine wp_ret ?_)
    | ((with_reducible refine wp_seq_k ?_); intro _ _)
    | (go_at_K; go_step)
    | (simp only [Exit.then, Exit.inBlock, ↓reduceIte, Nat.reduceEqDiff]))
  ((try simp only [Exit.inBlock, Exit.then]); refine Sy.st_ret1 T F rfl (by repeat (first | exact Sy.ResV.nil | apply Sy.ResV.tmp rfl | apply Sy.ResV.row rfl rfl rfl (by repeat (first | exact Sy.Take.here | apply Sy.Take.there)) (by rfl) | apply Sy.ResV.one rfl rfl rfl (by repeat (first | exact Sy.Take.here | apply Sy.Take.there)) (by rfl))) ?_)
  exact F.retV _
theorem regZ : regB zeroReg = numB 0 := by
  unfold regB
  rw [if_pos (show zeroReg.kind = 0 from rfl)]
  rfl
theorem prep_reg (w0 : World) : PutsReg w0 zeroReg zeroRegA (regB zeroReg) := fun w a cap l hs hb hl =>
  Rg.put_0 w hb (by omega) zeroReg zeroRegA (zeroReg_at w) (by constructor <;> simp [zeroReg]) (by decide) rfl
theorem prep_put (w0 : World) {src dst key conf : Nat} {b : BalD} (h1 : src < 64) (h2 : dst < 64) (h3 : key < 16) (h4 : conf < 18446744073709551616) (h5 : BalOk b) (hb : b ≠ zeroBal) :
    Calls Try.prog 27 #[.agg (msgCs (prepD src dst key conf b) zeroRegA).toArray] w0 (RetM w0 w0 (BytP w0.heap.size (Sm.markS (msgB (prepD src dst key conf b) (regB zeroReg))) 0)) :=
  putMsg w0 _ zeroRegA (prep_at w0 h1 h2 h3 h4 h5) (fun w _ => prep_may w h1 h2 h3 hb) _ (by rw [regZ]; have := numB_len (n := 0) (by omega); omega) (prep_reg w0)
theorem prep_get (m : World) (w : World) (hs : Sub m w) {src dst key conf : Nat} {b : BalD} (h1 : src < 64) (h2 : dst < 64) (h3 : key < 16) (h4 : conf < 18446744073709551616) (h5 : BalOk b) (hb : b ≠ zeroBal) :
    Calls Try.prog 27 #[.agg (msgCs (prepD src dst key conf b) zeroRegA).toArray] w (RetM m w (BytP w.heap.size (Sm.markS (msgB (prepD src dst key conf b) (regB zeroReg))) 0)) :=
  (prep_put w h1 h2 h3 h4 h5 hb).mono fun e w' r => retM_Y hs (retY r)
theorem small1 {n : Nat} (h : n < 128) : (numB n).length = 1 := by
  rw [Pk.numB, if_pos h]
  rfl
theorem exam_len : (Sm.markS (msgB (prepD 1 2 0 0 ⟨1, 1, 0⟩) (regB zeroReg))).length = 21 := by
  rw [Sm.mark_len]
  rw [regZ]
  unfold msgB preM preM preM preM preM preM nth5 prepD okN balB zeroBal
  simp [small1]
set_option maxRecDepth 20000 in
set_option maxHeartbeats 1000000 in
theorem awake_any (w0 : World) : Calls Try.prog 24 #[] w0 (RetV w0 (.bool true)) := by
  have F := Sy.Mem.start (Sub.refl w0)
  have e0 : ((0 : Int) == 0) = true := rfl
  refine Sy.enter Try.func24 rfl Try.ntmps24 rfl ?_; intro ac T; simp only [Sy.enum, Nat.zero_add, Nat.reduceAdd] at T
  repeat (first
    | (((with_reducible refine Sy.is_guard ?_); (first | refine Sy.st_guard T (h := ?_) | (refine Sy.st_unguard T (h := ?_); clear T; intro ac T))))
    | (((with_reducible refine Sy.is_build ?_); refine Sy.st_build T (h := ?_); (conv => whnf); (repeat (refine ⟨by first | exact rfl | exact ⟨rfl, rfl⟩, ?_⟩; (conv => whnf))); clear T; intro ac T))
    | (((with_reducible refine Sy.is_op ?_); refine Sy.st_pure T (h := ?_); clear T; intro ac T))
    | ((with_reducible refine Sy.atK (hK _ _ ?_)))
    | ((with_reducible refine Sy.is_cond ?_); (first | refine Sy.st_true T (h := ?_) | refine Sy.st_false T (h := ?_)))
    | (with_reducible refine wpList_nil ?_)
    | (with_reducible refine wp_region_lit ?_)
    | (with_reducible refine wp_block ?_)
    | (with_reducible refine wp_skip ?_)
    | (with_reducible refine wp_exit ?_)
    | (with_reducible refine wp_ret ?_)
    | ((with_reducible refine wp_seq_k ?_); intro _ _)
    | (go_at_K; go_step)
    | (simp only [Exit.then, Exit.inBlock, ↓reduceIte, Nat.reduceEqDiff]))
  have G := prep_get w0 _ F.sub (src := 1) (dst := 2) (key := 0) (conf := 0) (b := ⟨1, 1, 0⟩) (by omega) (by omega) (by omega) (by omega) (by unfold BalOk; simp) (by decide); refine Sy.st_callM0 T F (hc := G) (h := ?_); (clear T F G; intro v m ac w hR hS T F)
  obtain ⟨u, rfl, a, cap, rfl, hb, hc1, hc2, hown⟩ := hR
  have e21 : (((Sm.markS (msgB (prepD 1 2 0 0 ⟨1, 1, 0⟩) (regB zeroReg))).length : Int) == 21) = true := eqT (by rw [exam_len]; rfl)
  repeat (first
    | (((with_reducible refine Sy.is_guard ?_); (first | refine Sy.st_guard T (h := ?_) | (refine Sy.st_unguard T (h := ?_); clear T; intro ac T))))
    | (((with_reducible refine Sy.is_build ?_); refine Sy.st_build T (h := ?_); (conv => whnf); (repeat (refine ⟨by first | exact rfl | exact ⟨rfl, rfl⟩, ?_⟩; (conv => whnf))); clear T; intro ac T))
    | (((with_reducible refine Sy.is_op ?_); refine Sy.st_pure T (h := ?_); clear T; intro ac T))
    | ((with_reducible refine Sy.atK (hK _ _ ?_)))
    | ((with_reducible refine Sy.is_cond ?_); (first | refine Sy.st_true T (h := ?_) | refine Sy.st_false T (h := ?_)))
    | (with_reducible refine wpList_nil ?_)
    | (with_reducible refine wp_region_lit ?_)
    | (with_reducible refine wp_block ?_)
    | (with_reducible refine wp_skip ?_)
    | (with_reducible refine wp_exit ?_)
    | (with_reducible refine wp_ret ?_)
    | ((with_reducible refine wp_seq_k ?_); intro _ _)
    | (go_at_K; go_step)
    | (simp only [Exit.then, Exit.inBlock, ↓reduceIte, Nat.reduceEqDiff]))
  ((try simp only [Exit.inBlock, Exit.then]); refine Sy.st_ret1 T F rfl (by repeat (first | exact Sy.ResV.nil | apply Sy.ResV.tmp rfl | apply Sy.ResV.row rfl rfl rfl (by repeat (first | exact Sy.Take.here | apply Sy.Take.there)) (by rfl) | apply Sy.ResV.one rfl rfl rfl (by repeat (first | exact Sy.Take.here | apply Sy.Take.there)) (by rfl))) ?_)
  exact F.retV _
set_option maxRecDepth 20000 in
set_option maxHeartbeats 2000000 in
theorem msgSame_any (w0 : World) (x y : MsgD) (p q : RegA) (hx : MsgAt w0 x p) (hy : MsgAt w0 y q) :
    Calls Try.prog 5 #[.agg (msgCs x p).toArray, .agg (msgCs y q).toArray] w0 (RetV w0 (.bool true)) := by
  have F := Sy.Mem.start (Sub.refl w0)
  have hB := Try.underlying4
  obtain ⟨va, vc, da, dc, oa, oc, ma, mc⟩ := p
  obtain ⟨va2, vc2, da2, dc2, oa2, oc2, ma2, mc2⟩ := q
  have hxr := hx.reg
  have hyr := hy.reg
  refine Sy.enter Try.func5 rfl Try.ntmps5 rfl ?_; intro ac T; simp only [Sy.enum, Nat.zero_add, Nat.reduceAdd] at T
  repeat (first
    | (((with_reducible refine Sy.is_guard ?_); (first | refine Sy.st_guard T (h := ?_) | (refine Sy.st_unguard T (h := ?_); clear T; intro ac T))))
    | (((with_reducible refine Sy.is_load ?_); (first | refine Sy.st_loadOne T F (h := ?_) | refine Sy.st_oldOne T F (h := ?_) | refine Sy.st_loadAll T F (h := ?_) | (refine Sy.st_loadCut T F (h := ?_); conv => whnf) | refine Sy.st_oldAgg T F (h := ?_) | (refine Sy.st_oldCut T F (h := ?_); conv => whnf)); clear T; intro ac T))
    | (((with_reducible refine Sy.is_box ?_); (first | refine Sy.st_boxAgg T F (h := ?_) | refine Sy.st_boxOne T F (h := ?_)); clear T F; intro ac g w T F))
    | (((with_reducible refine Sy.is_op ?_); refine Sy.st_pure T (h := ?_); clear T; intro ac T))
    | ((with_reducible refine Sy.atK (hK _ _ ?_)))
    | ((with_reducible refine Sy.is_cond ?_); (first | refine Sy.st_true T (h := ?_) | refine Sy.st_false T (h := ?_)))
    | (with_reducible refine wpList_nil ?_)
    | (with_reducible refine wp_region_lit ?_)
    | (with_reducible refine wp_block ?_)
    | (with_reducible refine wp_skip ?_)
    | (with_reducible refine wp_exit ?_)
    | (with_reducible refine wp_ret ?_)
    | ((with_reducible refine wp_seq_k ?_); intro _ _)
    | (go_at_K; go_step)
    | (simp only [Exit.then, Exit.inBlock, ↓reduceIte, Nat.reduceEqDiff])
    | ((with_reducible refine Sy.is_drawn (id := 3) ?_); refine Sy.sx_region F [] (.t 0 (.t 1 (.t 3 (.t 4 (.h 2 (.h 5 (.t 6 (.t 7 (.t 8 (.t 9 (.h 10 (.t 11 (.t 12 (.h 13 (.t 14 (.t 15 .e)))))))))))))))) [] (by kernel_rfl) ?_; (clear F; intro w F))
    | ((first | refine Sy.sx_plain (h := ?_) | refine Sy.sx_guard (T := T) (h := ?_)); (first | ((with_reducible refine Sy.ux_load ?_); (first | refine Sy.sx_val (Sy.rx_loadOne T F) T rfl ?_ | refine Sy.sx_val (Sy.rx_oldOne T F) T rfl ?_ | refine Sy.sx_val (Sy.rx_loadAll T F) T rfl ?_ | (refine Sy.sx_loadCut T F (h := ?_); conv => whnf) | refine Sy.sx_val (Sy.rx_oldAgg T F) T rfl ?_ | (refine Sy.sx_oldCut T F (h := ?_); conv => whnf)); clear T; intro ac T) | (refine Sy.sx_pure T (h := ?_); clear T; intro ac T)); show Sy.wpUx _ _ _ _ _ _ _ _ _)
    | ((first | refine Sy.sx_unguard (T := T) (h := ?_) | refine Sy.sx_unguardH (T := T) (h := ?_)); clear T; intro ac T)
    | (with_reducible refine Sy.sx_fork ?_ ?_)
    | (with_reducible refine Sy.sx_nil ?_)
    | (with_reducible refine Sy.sx_end ?_)
    | (with_reducible refine Sy.sx_tail rfl rfl (fun K hK => ?_))
    | ((first | refine Sy.sx_new (T := T) (F := F) (hr := Sy.new_boxAgg T rfl) (h := ?_) | refine Sy.sx_new (T := T) (F := F) (hr := Sy.new_boxOne T rfl rfl) (h := ?_) | refine Sy.sx_new (T := T) (F := F) (hr := Sy.new_alloc rfl) (h := ?_)); clear T F; intro ac g w T F))
  have G : Calls Try.prog 16 #[.agg (regCs x.reg ⟨va, vc, da, dc, oa, oc, ma, mc⟩).toArray] w (RetV w (.bool (Rg.greatS x.reg))) := Rg.great_any w x.reg _ (hxr.sub F.sub)
  cases g1 : Rg.greatS x.reg with
  | true =>
    rw [g1] at G
    refine Sy.st_callV0 T F (hc := G) (h := ?_); (clear T F; intro ac w T F)
    clear G
    repeat (first
    | (((with_reducible refine Sy.is_guard ?_); (first | refine Sy.st_guard T (h := ?_) | (refine Sy.st_unguard T (h := ?_); clear T; intro ac T))))
    | (((with_reducible refine Sy.is_load ?_); (first | refine Sy.st_loadOne T F (h := ?_) | refine Sy.st_oldOne T F (h := ?_) | refine Sy.st_loadAll T F (h := ?_) | (refine Sy.st_loadCut T F (h := ?_); conv => whnf) | refine Sy.st_oldAgg T F (h := ?_) | (refine Sy.st_oldCut T F (h := ?_); conv => whnf)); clear T; intro ac T))
    | (((with_reducible refine Sy.is_box ?_); (first | refine Sy.st_boxAgg T F (h := ?_) | refine Sy.st_boxOne T F (h := ?_)); clear T F; intro ac g w T F))
    | (((with_reducible refine Sy.is_op ?_); refine Sy.st_pure T (h := ?_); clear T; intro ac T))
    | ((with_reducible refine Sy.atK (hK _ _ ?_)))
    | ((with_reducible refine Sy.is_cond ?_); (first | refine Sy.st_true T (h := ?_) | refine Sy.st_false T (h := ?_)))
    | (with_reducible refine wpList_nil ?_)
    | (with_reducible refine wp_region_lit ?_)
    | (with_reducible refine wp_block ?_)
    | (with_reducible refine wp_skip ?_)
    | (with_reducible refine wp_exit ?_)
    | (with_reducible refine wp_ret ?_)
    | ((with_reducible refine wp_seq_k ?_); intro _ _)
    | (go_at_K; go_step)
    | (simp only [Exit.then, Exit.inBlock, ↓reduceIte, Nat.reduceEqDiff])
    | ((with_reducible refine Sy.is_drawn (id := 3) ?_); refine Sy.sx_region F [] (.t 0 (.t 1 (.t 3 (.t 4 (.h 2 (.h 5 (.t 6 (.t 7 (.t 8 (.t 9 (.h 10 (.t 11 (.t 12 (.h 13 (.t 14 (.t 15 .e)))))))))))))))) [] (by kernel_rfl) ?_; (clear F; intro w F))
    | ((first | refine Sy.sx_plain (h := ?_) | refine Sy.sx_guard (T := T) (h := ?_)); (first | ((with_reducible refine Sy.ux_load ?_); (first | refine Sy.sx_val (Sy.rx_loadOne T F) T rfl ?_ | refine Sy.sx_val (Sy.rx_oldOne T F) T rfl ?_ | refine Sy.sx_val (Sy.rx_loadAll T F) T rfl ?_ | (refine Sy.sx_loadCut T F (h := ?_); conv => whnf) | refine Sy.sx_val (Sy.rx_oldAgg T F) T rfl ?_ | (refine Sy.sx_oldCut T F (h := ?_); conv => whnf)); clear T; intro ac T) | (refine Sy.sx_pure T (h := ?_); clear T; intro ac T)); show Sy.wpUx _ _ _ _ _ _ _ _ _)
    | ((first | refine Sy.sx_unguard (T := T) (h := ?_) | refine Sy.sx_unguardH (T := T) (h := ?_)); clear T; intro ac T)
    | (with_reducible refine Sy.sx_fork ?_ ?_)
    | (with_reducible refine Sy.sx_nil ?_)
    | (with_reducible refine Sy.sx_end ?_)
    | (with_reducible refine Sy.sx_tail rfl rfl (fun K hK => ?_))
    | ((first | refine Sy.sx_new (T := T) (F := F) (hr := Sy.new_boxAgg T rfl) (h := ?_) | refine Sy.sx_new (T := T) (F := F) (hr := Sy.new_boxOne T rfl rfl) (h := ?_) | refine Sy.sx_new (T := T) (F := F) (hr := Sy.new_alloc rfl) (h := ?_)); clear T F; intro ac g w T F))
    refine Sy.st_callV0 T F (hc := awake_any _) (h := ?_); (clear T F; intro ac w T F)
    repeat (first
    | (((with_reducible refine Sy.is_guard ?_); (first | refine Sy.st_guard T (h := ?_) | (refine Sy.st_unguard T (h := ?_); clear T; intro ac T))))
    | (((with_reducible refine Sy.is_load ?_); (first | refine Sy.st_loadOne T F (h := ?_) | refine Sy.st_oldOne T F (h := ?_) | refine Sy.st_loadAll T F (h := ?_) | (refine Sy.st_loadCut T F (h := ?_); conv => whnf) | refine Sy.st_oldAgg T F (h := ?_) | (refine Sy.st_oldCut T F (h := ?_); conv => whnf)); clear T; intro ac T))
    | (((with_reducible refine Sy.is_box ?_); (first | refine Sy.st_boxAgg T F (h := ?_) | refine Sy.st_boxOne T F (h := ?_)); clear T F; intro ac g w T F))
    | (((with_reducible refine Sy.is_op ?_); refine Sy.st_pure T (h := ?_); clear T; intro ac T))
    | ((with_reducible refine Sy.atK (hK _ _ ?_)))
    | ((with_reducible refine Sy.is_cond ?_); (first | refine Sy.st_true T (h := ?_) | refine Sy.st_false T (h := ?_)))
    | (with_reducible refine wpList_nil ?_)
    | (with_reducible refine wp_region_lit ?_)
    | (with_reducible refine wp_block ?_)
    | (with_reducible refine wp_skip ?_)
    | (with_reducible refine wp_exit ?_)
    | (with_reducible refine wp_ret ?_)
    | ((with_reducible refine wp_seq_k ?_); intro _ _)
    | (go_at_K; go_step)
    | (simp only [Exit.then, Exit.inBlock, ↓reduceIte, Nat.reduceEqDiff])
    | ((with_reducible refine Sy.is_drawn (id := 3) ?_); refine Sy.sx_region F [] (.t 0 (.t 1 (.t 3 (.t 4 (.h 2 (.h 5 (.t 6 (.t 7 (.t 8 (.t 9 (.h 10 (.t 11 (.t 12 (.h 13 (.t 14 (.t 15 .e)))))))))))))))) [] (by kernel_rfl) ?_; (clear F; intro w F))
    | ((first | refine Sy.sx_plain (h := ?_) | refine Sy.sx_guard (T := T) (h := ?_)); (first | ((with_reducible refine Sy.ux_load ?_); (first | refine Sy.sx_val (Sy.rx_loadOne T F) T rfl ?_ | refine Sy.sx_val (Sy.rx_oldOne T F) T rfl ?_ | refine Sy.sx_val (Sy.rx_loadAll T F) T rfl ?_ | (refine Sy.sx_loadCut T F (h := ?_); conv => whnf) | refine Sy.sx_val (Sy.rx_oldAgg T F) T rfl ?_ | (refine Sy.sx_oldCut T F (h := ?_); conv => whnf)); clear T; intro ac T) | (refine Sy.sx_pure T (h := ?_); clear T; intro ac T)); show Sy.wpUx _ _ _ _ _ _ _ _ _)
    | ((first | refine Sy.sx_unguard (T := T) (h := ?_) | refine Sy.sx_unguardH (T := T) (h := ?_)); clear T; intro ac T)
    | (with_reducible refine Sy.sx_fork ?_ ?_)
    | (with_reducible refine Sy.sx_nil ?_)
    | (with_reducible refine Sy.sx_end ?_)
    | (with_reducible refine Sy.sx_tail rfl rfl (fun K hK => ?_))
    | ((first | refine Sy.sx_new (T := T) (F := F) (hr := Sy.new_boxAgg T rfl) (h := ?_) | refine Sy.sx_new (T := T) (F := F) (hr := Sy.new_boxOne T rfl rfl) (h := ?_) | refine Sy.sx_new (T := T) (F := F) (hr := Sy.new_alloc rfl) (h := ?_)); clear T F; intro ac g w T F))
    ((try simp only [Exit.inBlock, Exit.then]); refine Sy.st_ret1 T F rfl (by repeat (first | exact Sy.ResV.nil | apply Sy.ResV.tmp rfl | apply Sy.ResV.row rfl rfl rfl (by repeat (first | exact Sy.Take.here | apply Sy.Take.there)) (by rfl) | apply Sy.ResV.one rfl rfl rfl (by repeat (first | exact Sy.Take.here | apply Sy.Take.there)) (by rfl))) ?_)
    exact F.retV _
  | false =>
  rw [g1] at G
  refine Sy.st_callV0 T F (hc := G) (h := ?_); (clear T F; intro ac w T F)
  clear G
  repeat (first
    | (((with_reducible refine Sy.is_guard ?_); (first | refine Sy.st_guard T (h := ?_) | (refine Sy.st_unguard T (h := ?_); clear T; intro ac T))))
    | (((with_reducible refine Sy.is_load ?_); (first | refine Sy.st_loadOne T F (h := ?_) | refine Sy.st_oldOne T F (h := ?_) | refine Sy.st_loadAll T F (h := ?_) | (refine Sy.st_loadCut T F (h := ?_); conv => whnf) | refine Sy.st_oldAgg T F (h := ?_) | (refine Sy.st_oldCut T F (h := ?_); conv => whnf)); clear T; intro ac T))
    | (((with_reducible refine Sy.is_box ?_); (first | refine Sy.st_boxAgg T F (h := ?_) | refine Sy.st_boxOne T F (h := ?_)); clear T F; intro ac g w T F))
    | (((with_reducible refine Sy.is_op ?_); refine Sy.st_pure T (h := ?_); clear T; intro ac T))
    | ((with_reducible refine Sy.atK (hK _ _ ?_)))
    | ((with_reducible refine Sy.is_cond ?_); (first | refine Sy.st_true T (h := ?_) | refine Sy.st_false T (h := ?_)))
    | (with_reducible refine wpList_nil ?_)
    | (with_reducible refine wp_region_lit ?_)
    | (with_reducible refine wp_block ?_)
    | (with_reducible refine wp_skip ?_)
    | (with_reducible refine wp_exit ?_)
    | (with_reducible refine wp_ret ?_)
    | ((with_reducible refine wp_seq_k ?_); intro _ _)
    | (go_at_K; go_step)
    | (simp only [Exit.then, Exit.inBlock, ↓reduceIte, Nat.reduceEqDiff])
    | ((with_reducible refine Sy.is_drawn (id := 3) ?_); refine Sy.sx_region F [] (.t 0 (.t 1 (.t 3 (.t 4 (.h 2 (.h 5 (.t 6 (.t 7 (.t 8 (.t 9 (.h 10 (.t 11 (.t 12 (.h 13 (.t 14 (.t 15 .e)))))))))))))))) [] (by kernel_rfl) ?_; (clear F; intro w F))
    | ((first | refine Sy.sx_plain (h := ?_) | refine Sy.sx_guard (T := T) (h := ?_)); (first | ((with_reducible refine Sy.ux_load ?_); (first | refine Sy.sx_val (Sy.rx_loadOne T F) T rfl ?_ | refine Sy.sx_val (Sy.rx_oldOne T F) T rfl ?_ | refine Sy.sx_val (Sy.rx_loadAll T F) T rfl ?_ | (refine Sy.sx_loadCut T F (h := ?_); conv => whnf) | refine Sy.sx_val (Sy.rx_oldAgg T F) T rfl ?_ | (refine Sy.sx_oldCut T F (h := ?_); conv => whnf)); clear T; intro ac T) | (refine Sy.sx_pure T (h := ?_); clear T; intro ac T)); show Sy.wpUx _ _ _ _ _ _ _ _ _)
    | ((first | refine Sy.sx_unguard (T := T) (h := ?_) | refine Sy.sx_unguardH (T := T) (h := ?_)); clear T; intro ac T)
    | (with_reducible refine Sy.sx_fork ?_ ?_)
    | (with_reducible refine Sy.sx_nil ?_)
    | (with_reducible refine Sy.sx_end ?_)
    | (with_reducible refine Sy.sx_tail rfl rfl (fun K hK => ?_))
    | ((first | refine Sy.sx_new (T := T) (F := F) (hr := Sy.new_boxAgg T rfl) (h := ?_) | refine Sy.sx_new (T := T) (F := F) (hr := Sy.new_boxOne T rfl rfl) (h := ?_) | refine Sy.sx_new (T := T) (F := F) (hr := Sy.new_alloc rfl) (h := ?_)); clear T F; intro ac g w T F))
  have G : Calls Try.prog 16 #[.agg (regCs y.reg ⟨va2, vc2, da2, dc2, oa2, oc2, ma2, mc2⟩).toArray] w (RetV w (.bool (Rg.greatS y.reg))) := Rg.great_any w y.reg _ (hyr.sub F.sub)
  cases g2 : Rg.greatS y.reg with
  | true =>
    rw [g2] at G
    refine Sy.st_callV0 T F (hc := G) (h := ?_); (clear T F; intro ac w T F)
    clear G
    repeat (first
    | (((with_reducible refine Sy.is_guard ?_); (first | refine Sy.st_guard T (h := ?_) | (refine Sy.st_unguard T (h := ?_); clear T; intro ac T))))
    | (((with_reducible refine Sy.is_load ?_); (first | refine Sy.st_loadOne T F (h := ?_) | refine Sy.st_oldOne T F (h := ?_) | refine Sy.st_loadAll T F (h := ?_) | (refine Sy.st_loadCut T F (h := ?_); conv => whnf) | refine Sy.st_oldAgg T F (h := ?_) | (refine Sy.st_oldCut T F (h := ?_); conv => whnf)); clear T; intro ac T))
    | (((with_reducible refine Sy.is_box ?_); (first | refine Sy.st_boxAgg T F (h := ?_) | refine Sy.st_boxOne T F (h := ?_)); clear T F; intro ac g w T F))
    | (((with_reducible refine Sy.is_op ?_); refine Sy.st_pure T (h := ?_); clear T; intro ac T))
    | ((with_reducible refine Sy.atK (hK _ _ ?_)))
    | ((with_reducible refine Sy.is_cond ?_); (first | refine Sy.st_true T (h := ?_) | refine Sy.st_false T (h := ?_)))
    | (with_reducible refine wpList_nil ?_)
    | (with_reducible refine wp_region_lit ?_)
    | (with_reducible refine wp_block ?_)
    | (with_reducible refine wp_skip ?_)
    | (with_reducible refine wp_exit ?_)
    | (with_reducible refine wp_ret ?_)
    | ((with_reducible refine wp_seq_k ?_); intro _ _)
    | (go_at_K; go_step)
    | (simp only [Exit.then, Exit.inBlock, ↓reduceIte, Nat.reduceEqDiff])
    | ((with_reducible refine Sy.is_drawn (id := 3) ?_); refine Sy.sx_region F [] (.t 0 (.t 1 (.t 3 (.t 4 (.h 2 (.h 5 (.t 6 (.t 7 (.t 8 (.t 9 (.h 10 (.t 11 (.t 12 (.h 13 (.t 14 (.t 15 .e)))))))))))))))) [] (by kernel_rfl) ?_; (clear F; intro w F))
    | ((first | refine Sy.sx_plain (h := ?_) | refine Sy.sx_guard (T := T) (h := ?_)); (first | ((with_reducible refine Sy.ux_load ?_); (first | refine Sy.sx_val (Sy.rx_loadOne T F) T rfl ?_ | refine Sy.sx_val (Sy.rx_oldOne T F) T rfl ?_ | refine Sy.sx_val (Sy.rx_loadAll T F) T rfl ?_ | (refine Sy.sx_loadCut T F (h := ?_); conv => whnf) | refine Sy.sx_val (Sy.rx_oldAgg T F) T rfl ?_ | (refine Sy.sx_oldCut T F (h := ?_); conv => whnf)); clear T; intro ac T) | (refine Sy.sx_pure T (h := ?_); clear T; intro ac T)); show Sy.wpUx _ _ _ _ _ _ _ _ _)
    | ((first | refine Sy.sx_unguard (T := T) (h := ?_) | refine Sy.sx_unguardH (T := T) (h := ?_)); clear T; intro ac T)
    | (with_reducible refine Sy.sx_fork ?_ ?_)
    | (with_reducible refine Sy.sx_nil ?_)
    | (with_reducible refine Sy.sx_end ?_)
    | (with_reducible refine Sy.sx_tail rfl rfl (fun K hK => ?_))
    | ((first | refine Sy.sx_new (T := T) (F := F) (hr := Sy.new_boxAgg T rfl) (h := ?_) | refine Sy.sx_new (T := T) (F := F) (hr := Sy.new_boxOne T rfl rfl) (h := ?_) | refine Sy.sx_new (T := T) (F := F) (hr := Sy.new_alloc rfl) (h := ?_)); clear T F; intro ac g w T F))
    refine Sy.st_callV0 T F (hc := awake_any _) (h := ?_); (clear T F; intro ac w T F)
    repeat (first
    | (((with_reducible refine Sy.is_guard ?_); (first | refine Sy.st_guard T (h := ?_) | (refine Sy.st_unguard T (h := ?_); clear T; intro ac T))))
    | (((with_reducible refine Sy.is_load ?_); (first | refine Sy.st_loadOne T F (h := ?_) | refine Sy.st_oldOne T F (h := ?_) | refine Sy.st_loadAll T F (h := ?_) | (refine Sy.st_loadCut T F (h := ?_); conv => whnf) | refine Sy.st_oldAgg T F (h := ?_) | (refine Sy.st_oldCut T F (h := ?_); conv => whnf)); clear T; intro ac T))
    | (((with_reducible refine Sy.is_box ?_); (first | refine Sy.st_boxAgg T F (h := ?_) | refine Sy.st_boxOne T F (h := ?_)); clear T F; intro ac g w T F))
    | (((with_reducible refine Sy.is_op ?_); refine Sy.st_pure T (h := ?_); clear T; intro ac T))
    | ((with_reducible refine Sy.atK (hK _ _ ?_)))
    | ((with_reducible refine Sy.is_cond ?_); (first | refine Sy.st_true T (h := ?_) | refine Sy.st_false T (h := ?_)))
    | (with_reducible refine wpList_nil ?_)
    | (with_reducible refine wp_region_lit ?_)
    | (with_reducible refine wp_block ?_)
    | (with_reducible refine wp_skip ?_)
    | (with_reducible refine wp_exit ?_)
    | (with_reducible refine wp_ret ?_)
    | ((with_reducible refine wp_seq_k ?_); intro _ _)
    | (go_at_K; go_step)
    | (simp only [Exit.then, Exit.inBlock, ↓reduceIte, Nat.reduceEqDiff])
    | ((with_reducible refine Sy.is_drawn (id := 3) ?_); refine Sy.sx_region F [] (.t 0 (.t 1 (.t 3 (.t 4 (.h 2 (.h 5 (.t 6 (.t 7 (.t 8 (.t 9 (.h 10 (.t 11 (.t 12 (.h 13 (.t 14 (.t 15 .e)))))))))))))))) [] (by kernel_rfl) ?_; (clear F; intro w F))
    | ((first | refine Sy.sx_plain (h := ?_) | refine Sy.sx_guard (T := T) (h := ?_)); (first | ((with_reducible refine Sy.ux_load ?_); (first | refine Sy.sx_val (Sy.rx_loadOne T F) T rfl ?_ | refine Sy.sx_val (Sy.rx_oldOne T F) T rfl ?_ | refine Sy.sx_val (Sy.rx_loadAll T F) T rfl ?_ | (refine Sy.sx_loadCut T F (h := ?_); conv => whnf) | refine Sy.sx_val (Sy.rx_oldAgg T F) T rfl ?_ | (refine Sy.sx_oldCut T F (h := ?_); conv => whnf)); clear T; intro ac T) | (refine Sy.sx_pure T (h := ?_); clear T; intro ac T)); show Sy.wpUx _ _ _ _ _ _ _ _ _)
    | ((first | refine Sy.sx_unguard (T := T) (h := ?_) | refine Sy.sx_unguardH (T := T) (h := ?_)); clear T; intro ac T)
    | (with_reducible refine Sy.sx_fork ?_ ?_)
    | (with_reducible refine Sy.sx_nil ?_)
    | (with_reducible refine Sy.sx_end ?_)
    | (with_reducible refine Sy.sx_tail rfl rfl (fun K hK => ?_))
    | ((first | refine Sy.sx_new (T := T) (F := F) (hr := Sy.new_boxAgg T rfl) (h := ?_) | refine Sy.sx_new (T := T) (F := F) (hr := Sy.new_boxOne T rfl rfl) (h := ?_) | refine Sy.sx_new (T := T) (F := F) (hr := Sy.new_alloc rfl) (h := ?_)); clear T F; intro ac g w T F))
    ((try simp only [Exit.inBlock, Exit.then]); refine Sy.st_ret1 T F rfl (by repeat (first | exact Sy.ResV.nil | apply Sy.ResV.tmp rfl | apply Sy.ResV.row rfl rfl rfl (by repeat (first | exact Sy.Take.here | apply Sy.Take.there)) (by rfl) | apply Sy.ResV.one rfl rfl rfl (by repeat (first | exact Sy.Take.here | apply Sy.Take.there)) (by rfl))) ?_)
    exact F.retV _
  | false =>
  rw [g2] at G
  refine Sy.st_callV0 T F (hc := G) (h := ?_); (clear T F; intro ac w T F)
  clear G
  repeat (first
    | (((with_reducible refine Sy.is_guard ?_); (first | refine Sy.st_guard T (h := ?_) | (refine Sy.st_unguard T (h := ?_); clear T; intro ac T))))
    | (((with_reducible refine Sy.is_load ?_); (first | refine Sy.st_loadOne T F (h := ?_) | refine Sy.st_oldOne T F (h := ?_) | refine Sy.st_loadAll T F (h := ?_) | (refine Sy.st_loadCut T F (h := ?_); conv => whnf) | refine Sy.st_oldAgg T F (h := ?_) | (refine Sy.st_oldCut T F (h := ?_); conv => whnf)); clear T; intro ac T))
    | (((with_reducible refine Sy.is_box ?_); (first | refine Sy.st_boxAgg T F (h := ?_) | refine Sy.st_boxOne T F (h := ?_)); clear T F; intro ac g w T F))
    | (((with_reducible refine Sy.is_op ?_); refine Sy.st_pure T (h := ?_); clear T; intro ac T))
    | ((with_reducible refine Sy.atK (hK _ _ ?_)))
    | ((with_reducible refine Sy.is_cond ?_); (first | refine Sy.st_true T (h := ?_) | refine Sy.st_false T (h := ?_)))
    | (with_reducible refine wpList_nil ?_)
    | (with_reducible refine wp_region_lit ?_)
    | (with_reducible refine wp_block ?_)
    | (with_reducible refine wp_skip ?_)
    | (with_reducible refine wp_exit ?_)
    | (with_reducible refine wp_ret ?_)
    | ((with_reducible refine wp_seq_k ?_); intro _ _)
    | (go_at_K; go_step)
    | (simp only [Exit.then, Exit.inBlock, ↓reduceIte, Nat.reduceEqDiff])
    | ((with_reducible refine Sy.is_drawn (id := 3) ?_); refine Sy.sx_region F [] (.t 0 (.t 1 (.t 3 (.t 4 (.h 2 (.h 5 (.t 6 (.t 7 (.t 8 (.t 9 (.h 10 (.t 11 (.t 12 (.h 13 (.t 14 (.t 15 .e)))))))))))))))) [] (by kernel_rfl) ?_; (clear F; intro w F))
    | ((first | refine Sy.sx_plain (h := ?_) | refine Sy.sx_guard (T := T) (h := ?_)); (first | ((with_reducible refine Sy.ux_load ?_); (first | refine Sy.sx_val (Sy.rx_loadOne T F) T rfl ?_ | refine Sy.sx_val (Sy.rx_oldOne T F) T rfl ?_ | refine Sy.sx_val (Sy.rx_loadAll T F) T rfl ?_ | (refine Sy.sx_loadCut T F (h := ?_); conv => whnf) | refine Sy.sx_val (Sy.rx_oldAgg T F) T rfl ?_ | (refine Sy.sx_oldCut T F (h := ?_); conv => whnf)); clear T; intro ac T) | (refine Sy.sx_pure T (h := ?_); clear T; intro ac T)); show Sy.wpUx _ _ _ _ _ _ _ _ _)
    | ((first | refine Sy.sx_unguard (T := T) (h := ?_) | refine Sy.sx_unguardH (T := T) (h := ?_)); clear T; intro ac T)
    | (with_reducible refine Sy.sx_fork ?_ ?_)
    | (with_reducible refine Sy.sx_nil ?_)
    | (with_reducible refine Sy.sx_end ?_)
    | (with_reducible refine Sy.sx_tail rfl rfl (fun K hK => ?_))
    | ((first | refine Sy.sx_new (T := T) (F := F) (hr := Sy.new_boxAgg T rfl) (h := ?_) | refine Sy.sx_new (T := T) (F := F) (hr := Sy.new_boxOne T rfl rfl) (h := ?_) | refine Sy.sx_new (T := T) (F := F) (hr := Sy.new_alloc rfl) (h := ?_)); clear T F; intro ac g w T F))
  have e1 : (decide (x = y) == decide (x = y)) = true := beq_self_eq_true _
  have G := same_any w x y _ _ (hx.sub F.sub) (hy.sub F.sub); refine Sy.sx_callV0 rfl T F (hc := G) (h := ?_); (clear T F G; intro ac w T F)
  repeat (first
    | (((with_reducible refine Sy.is_guard ?_); (first | refine Sy.st_guard T (h := ?_) | (refine Sy.st_unguard T (h := ?_); clear T; intro ac T))))
    | (((with_reducible refine Sy.is_load ?_); (first | refine Sy.st_loadOne T F (h := ?_) | refine Sy.st_oldOne T F (h := ?_) | refine Sy.st_loadAll T F (h := ?_) | (refine Sy.st_loadCut T F (h := ?_); conv => whnf) | refine Sy.st_oldAgg T F (h := ?_) | (refine Sy.st_oldCut T F (h := ?_); conv => whnf)); clear T; intro ac T))
    | (((with_reducible refine Sy.is_box ?_); (first | refine Sy.st_boxAgg T F (h := ?_) | refine Sy.st_boxOne T F (h := ?_)); clear T F; intro ac g w T F))
    | (((with_reducible refine Sy.is_op ?_); refine Sy.st_pure T (h := ?_); clear T; intro ac T))
    | ((with_reducible refine Sy.atK (hK _ _ ?_)))
    | ((with_reducible refine Sy.is_cond ?_); (first | refine Sy.st_true T (h := ?_) | refine Sy.st_false T (h := ?_)))
    | (with_reducible refine wpList_nil ?_)
    | (with_reducible refine wp_region_lit ?_)
    | (with_reducible refine wp_block ?_)
    | (with_reducible refine wp_skip ?_)
    | (with_reducible refine wp_exit ?_)
    | (with_reducible refine wp_ret ?_)
    | ((with_reducible refine wp_seq_k ?_); intro _ _)
    | (go_at_K; go_step)
    | (simp only [Exit.then, Exit.inBlock, ↓reduceIte, Nat.reduceEqDiff])
    | ((with_reducible refine Sy.is_drawn (id := 3) ?_); refine Sy.sx_region F [] (.t 0 (.t 1 (.t 3 (.t 4 (.h 2 (.h 5 (.t 6 (.t 7 (.t 8 (.t 9 (.h 10 (.t 11 (.t 12 (.h 13 (.t 14 (.t 15 .e)))))))))))))))) [] (by kernel_rfl) ?_; (clear F; intro w F))
    | ((first | refine Sy.sx_plain (h := ?_) | refine Sy.sx_guard (T := T) (h := ?_)); (first | ((with_reducible refine Sy.ux_load ?_); (first | refine Sy.sx_val (Sy.rx_loadOne T F) T rfl ?_ | refine Sy.sx_val (Sy.rx_oldOne T F) T rfl ?_ | refine Sy.sx_val (Sy.rx_loadAll T F) T rfl ?_ | (refine Sy.sx_loadCut T F (h := ?_); conv => whnf) | refine Sy.sx_val (Sy.rx_oldAgg T F) T rfl ?_ | (refine Sy.sx_oldCut T F (h := ?_); conv => whnf)); clear T; intro ac T) | (refine Sy.sx_pure T (h := ?_); clear T; intro ac T)); show Sy.wpUx _ _ _ _ _ _ _ _ _)
    | ((first | refine Sy.sx_unguard (T := T) (h := ?_) | refine Sy.sx_unguardH (T := T) (h := ?_)); clear T; intro ac T)
    | (with_reducible refine Sy.sx_fork ?_ ?_)
    | (with_reducible refine Sy.sx_nil ?_)
    | (with_reducible refine Sy.sx_end ?_)
    | (with_reducible refine Sy.sx_tail rfl rfl (fun K hK => ?_))
    | ((first | refine Sy.sx_new (T := T) (F := F) (hr := Sy.new_boxAgg T rfl) (h := ?_) | refine Sy.sx_new (T := T) (F := F) (hr := Sy.new_boxOne T rfl rfl) (h := ?_) | refine Sy.sx_new (T := T) (F := F) (hr := Sy.new_alloc rfl) (h := ?_)); clear T F; intro ac g w T F))
  have G := sameR_any w x y _ _ (hx.sub F.sub) (hy.sub F.sub); refine Sy.sx_callV0 rfl T F (hc := G) (h := ?_); (clear T F G; intro ac w T F)
  generalize decide (x = y) = D at *
  repeat (first
    | (((with_reducible refine Sy.is_guard ?_); (first | refine Sy.st_guard T (h := ?_) | (refine Sy.st_unguard T (h := ?_); clear T; intro ac T))))
    | (((with_reducible refine Sy.is_load ?_); (first | refine Sy.st_loadOne T F (h := ?_) | refine Sy.st_oldOne T F (h := ?_) | refine Sy.st_loadAll T F (h := ?_) | (refine Sy.st_loadCut T F (h := ?_); conv => whnf) | refine Sy.st_oldAgg T F (h := ?_) | (refine Sy.st_oldCut T F (h := ?_); conv => whnf)); clear T; intro ac T))
    | (((with_reducible refine Sy.is_box ?_); (first | refine Sy.st_boxAgg T F (h := ?_) | refine Sy.st_boxOne T F (h := ?_)); clear T F; intro ac g w T F))
    | (((with_reducible refine Sy.is_op ?_); refine Sy.st_pure T (h := ?_); clear T; intro ac T))
    | ((with_reducible refine Sy.atK (hK _ _ ?_)))
    | ((with_reducible refine Sy.is_cond ?_); (first | refine Sy.st_true T (h := ?_) | refine Sy.st_false T (h := ?_)))
    | (with_reducible refine wpList_nil ?_)
    | (with_reducible refine wp_region_lit ?_)
    | (with_reducible refine wp_block ?_)
    | (with_reducible refine wp_skip ?_)
    | (with_reducible refine wp_exit ?_)
    | (with_reducible refine wp_ret ?_)
    | ((with_reducible refine wp_seq_k ?_); intro _ _)
    | (go_at_K; go_step)
    | (simp only [Exit.then, Exit.inBlock, ↓reduceIte, Nat.reduceEqDiff])
    | ((with_reducible refine Sy.is_drawn (id := 3) ?_); refine Sy.sx_region F [] (.t 0 (.t 1 (.t 3 (.t 4 (.h 2 (.h 5 (.t 6 (.t 7 (.t 8 (.t 9 (.h 10 (.t 11 (.t 12 (.h 13 (.t 14 (.t 15 .e)))))))))))))))) [] (by kernel_rfl) ?_; (clear F; intro w F))
    | ((first | refine Sy.sx_plain (h := ?_) | refine Sy.sx_guard (T := T) (h := ?_)); (first | ((with_reducible refine Sy.ux_load ?_); (first | refine Sy.sx_val (Sy.rx_loadOne T F) T rfl ?_ | refine Sy.sx_val (Sy.rx_oldOne T F) T rfl ?_ | refine Sy.sx_val (Sy.rx_loadAll T F) T rfl ?_ | (refine Sy.sx_loadCut T F (h := ?_); conv => whnf) | refine Sy.sx_val (Sy.rx_oldAgg T F) T rfl ?_ | (refine Sy.sx_oldCut T F (h := ?_); conv => whnf)); clear T; intro ac T) | (refine Sy.sx_pure T (h := ?_); clear T; intro ac T)); show Sy.wpUx _ _ _ _ _ _ _ _ _)
    | ((first | refine Sy.sx_unguard (T := T) (h := ?_) | refine Sy.sx_unguardH (T := T) (h := ?_)); clear T; intro ac T)
    | (with_reducible refine Sy.sx_fork ?_ ?_)
    | (with_reducible refine Sy.sx_nil ?_)
    | (with_reducible refine Sy.sx_end ?_)
    | (with_reducible refine Sy.sx_tail rfl rfl (fun K hK => ?_))
    | ((first | refine Sy.sx_new (T := T) (F := F) (hr := Sy.new_boxAgg T rfl) (h := ?_) | refine Sy.sx_new (T := T) (F := F) (hr := Sy.new_boxOne T rfl rfl) (h := ?_) | refine Sy.sx_new (T := T) (F := F) (hr := Sy.new_alloc rfl) (h := ?_)); clear T F; intro ac g w T F))
  have G := same_any w x x _ _ (hx.sub F.sub) (hx.sub F.sub)
  rw [decide_eq_true rfl] at G
  refine Sy.sx_callVG rfl T F (hc := G) (h := ?_); (clear T F G; intro ac w T F)
  repeat (first
    | (((with_reducible refine Sy.is_guard ?_); (first | refine Sy.st_guard T (h := ?_) | (refine Sy.st_unguard T (h := ?_); clear T; intro ac T))))
    | (((with_reducible refine Sy.is_load ?_); (first | refine Sy.st_loadOne T F (h := ?_) | refine Sy.st_oldOne T F (h := ?_) | refine Sy.st_loadAll T F (h := ?_) | (refine Sy.st_loadCut T F (h := ?_); conv => whnf) | refine Sy.st_oldAgg T F (h := ?_) | (refine Sy.st_oldCut T F (h := ?_); conv => whnf)); clear T; intro ac T))
    | (((with_reducible refine Sy.is_box ?_); (first | refine Sy.st_boxAgg T F (h := ?_) | refine Sy.st_boxOne T F (h := ?_)); clear T F; intro ac g w T F))
    | (((with_reducible refine Sy.is_op ?_); refine Sy.st_pure T (h := ?_); clear T; intro ac T))
    | ((with_reducible refine Sy.atK (hK _ _ ?_)))
    | ((with_reducible refine Sy.is_cond ?_); (first | refine Sy.st_true T (h := ?_) | refine Sy.st_false T (h := ?_)))
    | (with_reducible refine wpList_nil ?_)
    | (with_reducible refine wp_region_lit ?_)
    | (with_reducible refine wp_block ?_)
    | (with_reducible refine wp_skip ?_)
    | (with_reducible refine wp_exit ?_)
    | (with_reducible refine wp_ret ?_)
    | ((with_reducible refine wp_seq_k ?_); intro _ _)
    | (go_at_K; go_step)
    | (simp only [Exit.then, Exit.inBlock, ↓reduceIte, Nat.reduceEqDiff])
    | ((with_reducible refine Sy.is_drawn (id := 3) ?_); refine Sy.sx_region F [] (.t 0 (.t 1 (.t 3 (.t 4 (.h 2 (.h 5 (.t 6 (.t 7 (.t 8 (.t 9 (.h 10 (.t 11 (.t 12 (.h 13 (.t 14 (.t 15 .e)))))))))))))))) [] (by kernel_rfl) ?_; (clear F; intro w F))
    | ((first | refine Sy.sx_plain (h := ?_) | refine Sy.sx_guard (T := T) (h := ?_)); (first | ((with_reducible refine Sy.ux_load ?_); (first | refine Sy.sx_val (Sy.rx_loadOne T F) T rfl ?_ | refine Sy.sx_val (Sy.rx_oldOne T F) T rfl ?_ | refine Sy.sx_val (Sy.rx_loadAll T F) T rfl ?_ | (refine Sy.sx_loadCut T F (h := ?_); conv => whnf) | refine Sy.sx_val (Sy.rx_oldAgg T F) T rfl ?_ | (refine Sy.sx_oldCut T F (h := ?_); conv => whnf)); clear T; intro ac T) | (refine Sy.sx_pure T (h := ?_); clear T; intro ac T)); show Sy.wpUx _ _ _ _ _ _ _ _ _)
    | ((first | refine Sy.sx_unguard (T := T) (h := ?_) | refine Sy.sx_unguardH (T := T) (h := ?_)); clear T; intro ac T)
    | (with_reducible refine Sy.sx_fork ?_ ?_)
    | (with_reducible refine Sy.sx_nil ?_)
    | (with_reducible refine Sy.sx_end ?_)
    | (with_reducible refine Sy.sx_tail rfl rfl (fun K hK => ?_))
    | ((first | refine Sy.sx_new (T := T) (F := F) (hr := Sy.new_boxAgg T rfl) (h := ?_) | refine Sy.sx_new (T := T) (F := F) (hr := Sy.new_boxOne T rfl rfl) (h := ?_) | refine Sy.sx_new (T := T) (F := F) (hr := Sy.new_alloc rfl) (h := ?_)); clear T F; intro ac g w T F))
  have G := awake_any w; refine Sy.sx_callVG rfl T F (hc := G) (h := ?_); (clear T F G; intro ac w T F)
  repeat (first
    | (((with_reducible refine Sy.is_guard ?_); (first | refine Sy.st_guard T (h := ?_) | (refine Sy.st_unguard T (h := ?_); clear T; intro ac T))))
    | (((with_reducible refine Sy.is_load ?_); (first | refine Sy.st_loadOne T F (h := ?_) | refine Sy.st_oldOne T F (h := ?_) | refine Sy.st_loadAll T F (h := ?_) | (refine Sy.st_loadCut T F (h := ?_); conv => whnf) | refine Sy.st_oldAgg T F (h := ?_) | (refine Sy.st_oldCut T F (h := ?_); conv => whnf)); clear T; intro ac T))
    | (((with_reducible refine Sy.is_box ?_); (first | refine Sy.st_boxAgg T F (h := ?_) | refine Sy.st_boxOne T F (h := ?_)); clear T F; intro ac g w T F))
    | (((with_reducible refine Sy.is_op ?_); refine Sy.st_pure T (h := ?_); clear T; intro ac T))
    | ((with_reducible refine Sy.atK (hK _ _ ?_)))
    | ((with_reducible refine Sy.is_cond ?_); (first | refine Sy.st_true T (h := ?_) | refine Sy.st_false T (h := ?_)))
    | (with_reducible refine wpList_nil ?_)
    | (with_reducible refine wp_region_lit ?_)
    | (with_reducible refine wp_block ?_)
    | (with_reducible refine wp_skip ?_)
    | (with_reducible refine wp_exit ?_)
    | (with_reducible refine wp_ret ?_)
    | ((with_reducible refine wp_seq_k ?_); intro _ _)
    | (go_at_K; go_step)
    | (simp only [Exit.then, Exit.inBlock, ↓reduceIte, Nat.reduceEqDiff])
    | ((with_reducible refine Sy.is_drawn (id := 3) ?_); refine Sy.sx_region F [] (.t 0 (.t 1 (.t 3 (.t 4 (.h 2 (.h 5 (.t 6 (.t 7 (.t 8 (.t 9 (.h 10 (.t 11 (.t 12 (.h 13 (.t 14 (.t 15 .e)))))))))))))))) [] (by kernel_rfl) ?_; (clear F; intro w F))
    | ((first | refine Sy.sx_plain (h := ?_) | refine Sy.sx_guard (T := T) (h := ?_)); (first | ((with_reducible refine Sy.ux_load ?_); (first | refine Sy.sx_val (Sy.rx_loadOne T F) T rfl ?_ | refine Sy.sx_val (Sy.rx_oldOne T F) T rfl ?_ | refine Sy.sx_val (Sy.rx_loadAll T F) T rfl ?_ | (refine Sy.sx_loadCut T F (h := ?_); conv => whnf) | refine Sy.sx_val (Sy.rx_oldAgg T F) T rfl ?_ | (refine Sy.sx_oldCut T F (h := ?_); conv => whnf)); clear T; intro ac T) | (refine Sy.sx_pure T (h := ?_); clear T; intro ac T)); show Sy.wpUx _ _ _ _ _ _ _ _ _)
    | ((first | refine Sy.sx_unguard (T := T) (h := ?_) | refine Sy.sx_unguardH (T := T) (h := ?_)); clear T; intro ac T)
    | (with_reducible refine Sy.sx_fork ?_ ?_)
    | (with_reducible refine Sy.sx_nil ?_)
    | (with_reducible refine Sy.sx_end ?_)
    | (with_reducible refine Sy.sx_tail rfl rfl (fun K hK => ?_))
    | ((first | refine Sy.sx_new (T := T) (F := F) (hr := Sy.new_boxAgg T rfl) (h := ?_) | refine Sy.sx_new (T := T) (F := F) (hr := Sy.new_boxOne T rfl rfl) (h := ?_) | refine Sy.sx_new (T := T) (F := F) (hr := Sy.new_alloc rfl) (h := ?_)); clear T F; intro ac g w T F))
  ((try simp only [Exit.inBlock, Exit.then]); refine Sy.st_ret1 T F rfl (by repeat (first | exact Sy.ResV.nil | apply Sy.ResV.tmp rfl | apply Sy.ResV.row rfl rfl rfl (by repeat (first | exact Sy.Take.here | apply Sy.Take.there)) (by rfl) | apply Sy.ResV.one rfl rfl rfl (by repeat (first | exact Sy.Take.here | apply Sy.Take.there)) (by rfl))) ?_)
  exact F.retV _
end Ms
theorem msgSameW (w : World) (x : Ms.MsgD) (p : Rg.RegA) (hx : Ms.MsgAt w x p) (y : Ms.MsgD) (q : Rg.RegA) (hy : Ms.MsgAt w y q) :
    Calls Try.prog 5 #[.agg (Ms.msgCs x p).toArray, .agg (Ms.msgCs y q).toArray] w (RetBo w true) := Ms.msgSame_any w x y p q hx hy
end Go.Proofs.Ytniopkoaplkpkaa
