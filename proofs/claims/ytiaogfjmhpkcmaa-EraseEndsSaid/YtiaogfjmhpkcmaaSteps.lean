/- The walks of the law's great and steps. Conditions: the erasing and the acts can be read. -/
import Derived.Test.YtiaogfjmhpkcmaaActs
import Derived.Test.YtiaogfjmhpkcmaaToldR
import Derived.Test.YtiaogfjmhpkcmaaEraS
namespace Go.Proofs.Ytiaogfjmhpkcmaa
open Go.RowKit
set_option linter.unusedVariables false
set_option linter.unusedSimpArgs false
namespace Rg
open Sy (RetV RetM Sub)

def stepS (x : EraD) (a : ActD) : EraD := if a.kind = 0 then toldS x a.a else if a.kind = 1 then visitS x a.node a.set else eraseS x a.node a.set
theorem rsame22 {w m : World} (hs : Sub m w) {x : EraD} {p q : RegA} (h : EraAt m x p) (h' : EraAt m x q) : Calls Try.prog 16 #[.agg (eraCs x p).toArray, .agg (eraCs x q).toArray] w (RetV w (.bool true)) := rsame_refl w x p q (h.sub hs) (h'.sub hs)
theorem greatM {w m : World} (hs : Sub m w) {r : RegD} {p : RegA} (h : RegAt m r p) {b : Bool} (hb : greatS r = b) : Calls Try.prog 10 #[.agg (regCs r p).toArray] w (RetV w (.bool b)) := by
  rw [← hb]; exact great_any w r p (h.sub hs)
def StepV (x : EraD) (m : World) (v : Value) : Prop := ∃ q, v = .tuple #[.agg (eraCs x q).toArray, .bool true] ∧ EraAt m x q

set_option maxRecDepth 20000 in
theorem stepsM {w m : World} (hs : Sub m w) {x : EraD} {p : RegA} {a : ActD} {pr : RepA} {q : RegA} (h : EraAt m x p) (ha : ActAt m a pr q) (hg : greatS a.a.reg = false) :
    Calls Try.prog 20 #[.agg (eraCs x p).toArray, .agg (actCs a pr q).toArray] w (RetM m w (StepV (stepS x a))) := by
  have F := Sy.Mem.start hs
  obtain ⟨ha, hn, hst⟩ := ha
  by_cases h0 : a.kind = 0
  · have t0 := eqT h0
    have he : stepS x a = toldS x a.a := by unfold stepS; rw [if_pos h0]
    rw [he]; clear he
    refine Sy.enter Try.func20 rfl Try.ntmps20 rfl ?_; intro ac T; simp only [Sy.enum, Nat.zero_add, Nat.reduceAdd] at T
    repeat (first
    | (((with_reducible refine Sy.is_load ?_); (first | refine Sy.st_loadOne T F (h := ?_) | refine Sy.st_oldOne T F (h := ?_) | refine Sy.st_loadAll T F (h := ?_) | (refine Sy.st_loadCut T F (h := ?_); conv => whnf) | refine Sy.st_oldAgg T F (h := ?_) | (refine Sy.st_oldCut T F (h := ?_); conv => whnf)); clear T; intro ac T))
    | (((with_reducible refine Sy.is_store ?_); (first | refine Sy.st_storeAll T F (h := ?_) | (refine Sy.st_storeOne T F (h := ?_); conv => whnf) | (refine Sy.st_storeAgg T F (h := ?_); conv => whnf)); clear T F; intro ac w T F))
    | (((with_reducible refine Sy.is_box ?_); (first | refine Sy.st_boxAgg T F (h := ?_) | refine Sy.st_boxOne T F (h := ?_)); clear T F; intro ac g w T F))
    | (((with_reducible refine Sy.is_alloc ?_); refine Sy.st_alloc T F (h := ?_); clear T F; intro ac g w T F))
    | (((with_reducible refine Sy.is_op ?_); refine Sy.st_pure T (h := ?_); clear T; intro ac T))
    | ((with_reducible refine Sy.atK (hK _ _ ?_)))
    | ((with_reducible refine Sy.is_cond ?_); (first | refine Sy.st_true T (h := ?_) | refine Sy.st_false T (h := ?_)))
    | (with_reducible refine wpList_nil ?_)
    | (with_reducible refine wp_region_lit ?_)
    | (with_reducible refine wp_block ?_)
    | (with_reducible refine wp_skip ?_)
    | (with_reducible refine wp_exit ?_)
    | (with_reducible refine wp_ret ?_)
    | ((with_reducible refine wp_seq_k ?_); intro _ _)
    | (go_at_K; go_step)
    | (simp only [Exit.then, Exit.inBlock, ↓reduceIte, Nat.reduceEqDiff])
    | ((with_reducible refine Sy.is_drawn (id := 4) ?_); refine Sy.sx_regionW T F 4 rfl (.t 0 (.t 1 (.t 2 (.t 3 (.t 4 (.h 5 (.h 6 (.h 7 (.t 8 .e))))))))) [] (by kernel_rfl) ?_; (clear F; intro w F); dsimp only)
    | ((with_reducible refine Sy.is_drawn (id := 7) ?_); refine Sy.sx_regionW T F 4 rfl (.t 0 (.t 1 (.t 2 (.t 3 (.t 4 (.t 5 (.t 6 (.h 7 (.h 8 (.h 9 (.t 10 .e))))))))))) [] (by kernel_rfl) ?_; (clear F; intro w F); dsimp only)
    | ((with_reducible refine Sy.is_drawn (id := 9) ?_); refine Sy.sx_regionW T F 4 rfl (.t 0 (.t 1 (.t 2 (.t 3 (.t 4 (.t 5 (.t 6 (.h 7 (.h 8 (.h 9 (.t 10 .e))))))))))) [] (by kernel_rfl) ?_; (clear F; intro w F); dsimp only)
    | ((first | refine Sy.sx_plain (h := ?_) | refine Sy.sx_guard (T := T) (h := ?_)); (first | ((with_reducible refine Sy.ux_load ?_); (first | refine Sy.sx_val (Sy.rx_loadOne T F) T rfl ?_ | refine Sy.sx_val (Sy.rx_oldOne T F) T rfl ?_ | refine Sy.sx_val (Sy.rx_loadAll T F) T rfl ?_ | (refine Sy.sx_loadCut T F (h := ?_); conv => whnf) | refine Sy.sx_val (Sy.rx_oldAgg T F) T rfl ?_ | (refine Sy.sx_oldCut T F (h := ?_); conv => whnf)); clear T; intro ac T) | (refine Sy.sx_pure T (h := ?_); clear T; intro ac T)); show Sy.wpUx _ _ _ _ _ _ _ _ _)
    | (with_reducible refine Sy.sx_fork ?_ ?_)
    | (with_reducible refine Sy.sx_nil ?_)
    | (with_reducible refine Sy.sx_end ?_)
    | (with_reducible refine Sy.sx_tail rfl rfl (fun K hK => ?_))
    | ((first | refine Sy.sx_new (T := T) (F := F) (hr := Sy.new_boxAgg T rfl) (h := ?_) | refine Sy.sx_new (T := T) (F := F) (hr := Sy.new_boxOne T rfl rfl) (h := ?_) | refine Sy.sx_new (T := T) (F := F) (hr := Sy.new_alloc rfl) (h := ?_)); clear T F; intro ac g w T F)
    | ((first | refine Sy.sx_storeAll (T := T) (F := F) (h := ?_) | (refine Sy.sx_storeOne (T := T) (F := F) (h := ?_); conv => whnf) | (refine Sy.sx_storeAgg (T := T) (F := F) (h := ?_); conv => whnf)); clear T F; intro ac w T F))
    refine Sy.st_callM0 T F (hc := toldM F.sub h ha hg) (h := ?_); (clear T F; intro v m ac w hR hS T F)
    obtain ⟨q1, rfl, hq1⟩ := hR
    replace h := h.sub hS
    replace ha := ha.sub hS
    repeat (first
    | (((with_reducible refine Sy.is_load ?_); (first | refine Sy.st_loadOne T F (h := ?_) | refine Sy.st_oldOne T F (h := ?_) | refine Sy.st_loadAll T F (h := ?_) | (refine Sy.st_loadCut T F (h := ?_); conv => whnf) | refine Sy.st_oldAgg T F (h := ?_) | (refine Sy.st_oldCut T F (h := ?_); conv => whnf)); clear T; intro ac T))
    | (((with_reducible refine Sy.is_store ?_); (first | refine Sy.st_storeAll T F (h := ?_) | (refine Sy.st_storeOne T F (h := ?_); conv => whnf) | (refine Sy.st_storeAgg T F (h := ?_); conv => whnf)); clear T F; intro ac w T F))
    | (((with_reducible refine Sy.is_box ?_); (first | refine Sy.st_boxAgg T F (h := ?_) | refine Sy.st_boxOne T F (h := ?_)); clear T F; intro ac g w T F))
    | (((with_reducible refine Sy.is_alloc ?_); refine Sy.st_alloc T F (h := ?_); clear T F; intro ac g w T F))
    | (((with_reducible refine Sy.is_op ?_); refine Sy.st_pure T (h := ?_); clear T; intro ac T))
    | ((with_reducible refine Sy.atK (hK _ _ ?_)))
    | ((with_reducible refine Sy.is_cond ?_); (first | refine Sy.st_true T (h := ?_) | refine Sy.st_false T (h := ?_)))
    | (with_reducible refine wpList_nil ?_)
    | (with_reducible refine wp_region_lit ?_)
    | (with_reducible refine wp_block ?_)
    | (with_reducible refine wp_skip ?_)
    | (with_reducible refine wp_exit ?_)
    | (with_reducible refine wp_ret ?_)
    | ((with_reducible refine wp_seq_k ?_); intro _ _)
    | (go_at_K; go_step)
    | (simp only [Exit.then, Exit.inBlock, ↓reduceIte, Nat.reduceEqDiff])
    | ((with_reducible refine Sy.is_drawn (id := 4) ?_); refine Sy.sx_regionW T F 4 rfl (.t 0 (.t 1 (.t 2 (.t 3 (.t 4 (.h 5 (.h 6 (.h 7 (.t 8 .e))))))))) [] (by kernel_rfl) ?_; (clear F; intro w F); dsimp only)
    | ((with_reducible refine Sy.is_drawn (id := 7) ?_); refine Sy.sx_regionW T F 4 rfl (.t 0 (.t 1 (.t 2 (.t 3 (.t 4 (.t 5 (.t 6 (.h 7 (.h 8 (.h 9 (.t 10 .e))))))))))) [] (by kernel_rfl) ?_; (clear F; intro w F); dsimp only)
    | ((with_reducible refine Sy.is_drawn (id := 9) ?_); refine Sy.sx_regionW T F 4 rfl (.t 0 (.t 1 (.t 2 (.t 3 (.t 4 (.t 5 (.t 6 (.h 7 (.h 8 (.h 9 (.t 10 .e))))))))))) [] (by kernel_rfl) ?_; (clear F; intro w F); dsimp only)
    | ((first | refine Sy.sx_plain (h := ?_) | refine Sy.sx_guard (T := T) (h := ?_)); (first | ((with_reducible refine Sy.ux_load ?_); (first | refine Sy.sx_val (Sy.rx_loadOne T F) T rfl ?_ | refine Sy.sx_val (Sy.rx_oldOne T F) T rfl ?_ | refine Sy.sx_val (Sy.rx_loadAll T F) T rfl ?_ | (refine Sy.sx_loadCut T F (h := ?_); conv => whnf) | refine Sy.sx_val (Sy.rx_oldAgg T F) T rfl ?_ | (refine Sy.sx_oldCut T F (h := ?_); conv => whnf)); clear T; intro ac T) | (refine Sy.sx_pure T (h := ?_); clear T; intro ac T)); show Sy.wpUx _ _ _ _ _ _ _ _ _)
    | (with_reducible refine Sy.sx_fork ?_ ?_)
    | (with_reducible refine Sy.sx_nil ?_)
    | (with_reducible refine Sy.sx_end ?_)
    | (with_reducible refine Sy.sx_tail rfl rfl (fun K hK => ?_))
    | ((first | refine Sy.sx_new (T := T) (F := F) (hr := Sy.new_boxAgg T rfl) (h := ?_) | refine Sy.sx_new (T := T) (F := F) (hr := Sy.new_boxOne T rfl rfl) (h := ?_) | refine Sy.sx_new (T := T) (F := F) (hr := Sy.new_alloc rfl) (h := ?_)); clear T F; intro ac g w T F)
    | ((first | refine Sy.sx_storeAll (T := T) (F := F) (h := ?_) | (refine Sy.sx_storeOne (T := T) (F := F) (h := ?_); conv => whnf) | (refine Sy.sx_storeAgg (T := T) (F := F) (h := ?_); conv => whnf)); clear T F; intro ac w T F))
    refine Sy.sx_callM0 rfl T F (hc := rtoldM F.sub h ha) (h := ?_); (clear T F; intro v m ac w hR hS T F)
    obtain ⟨q2, rfl, hq2⟩ := hR
    replace hq1 := hq1.sub hS
    repeat (first
    | (((with_reducible refine Sy.is_load ?_); (first | refine Sy.st_loadOne T F (h := ?_) | refine Sy.st_oldOne T F (h := ?_) | refine Sy.st_loadAll T F (h := ?_) | (refine Sy.st_loadCut T F (h := ?_); conv => whnf) | refine Sy.st_oldAgg T F (h := ?_) | (refine Sy.st_oldCut T F (h := ?_); conv => whnf)); clear T; intro ac T))
    | (((with_reducible refine Sy.is_store ?_); (first | refine Sy.st_storeAll T F (h := ?_) | (refine Sy.st_storeOne T F (h := ?_); conv => whnf) | (refine Sy.st_storeAgg T F (h := ?_); conv => whnf)); clear T F; intro ac w T F))
    | (((with_reducible refine Sy.is_box ?_); (first | refine Sy.st_boxAgg T F (h := ?_) | refine Sy.st_boxOne T F (h := ?_)); clear T F; intro ac g w T F))
    | (((with_reducible refine Sy.is_alloc ?_); refine Sy.st_alloc T F (h := ?_); clear T F; intro ac g w T F))
    | (((with_reducible refine Sy.is_op ?_); refine Sy.st_pure T (h := ?_); clear T; intro ac T))
    | ((with_reducible refine Sy.atK (hK _ _ ?_)))
    | ((with_reducible refine Sy.is_cond ?_); (first | refine Sy.st_true T (h := ?_) | refine Sy.st_false T (h := ?_)))
    | (with_reducible refine wpList_nil ?_)
    | (with_reducible refine wp_region_lit ?_)
    | (with_reducible refine wp_block ?_)
    | (with_reducible refine wp_skip ?_)
    | (with_reducible refine wp_exit ?_)
    | (with_reducible refine wp_ret ?_)
    | ((with_reducible refine wp_seq_k ?_); intro _ _)
    | (go_at_K; go_step)
    | (simp only [Exit.then, Exit.inBlock, ↓reduceIte, Nat.reduceEqDiff])
    | ((with_reducible refine Sy.is_drawn (id := 4) ?_); refine Sy.sx_regionW T F 4 rfl (.t 0 (.t 1 (.t 2 (.t 3 (.t 4 (.h 5 (.h 6 (.h 7 (.t 8 .e))))))))) [] (by kernel_rfl) ?_; (clear F; intro w F); dsimp only)
    | ((with_reducible refine Sy.is_drawn (id := 7) ?_); refine Sy.sx_regionW T F 4 rfl (.t 0 (.t 1 (.t 2 (.t 3 (.t 4 (.t 5 (.t 6 (.h 7 (.h 8 (.h 9 (.t 10 .e))))))))))) [] (by kernel_rfl) ?_; (clear F; intro w F); dsimp only)
    | ((with_reducible refine Sy.is_drawn (id := 9) ?_); refine Sy.sx_regionW T F 4 rfl (.t 0 (.t 1 (.t 2 (.t 3 (.t 4 (.t 5 (.t 6 (.h 7 (.h 8 (.h 9 (.t 10 .e))))))))))) [] (by kernel_rfl) ?_; (clear F; intro w F); dsimp only)
    | ((first | refine Sy.sx_plain (h := ?_) | refine Sy.sx_guard (T := T) (h := ?_)); (first | ((with_reducible refine Sy.ux_load ?_); (first | refine Sy.sx_val (Sy.rx_loadOne T F) T rfl ?_ | refine Sy.sx_val (Sy.rx_oldOne T F) T rfl ?_ | refine Sy.sx_val (Sy.rx_loadAll T F) T rfl ?_ | (refine Sy.sx_loadCut T F (h := ?_); conv => whnf) | refine Sy.sx_val (Sy.rx_oldAgg T F) T rfl ?_ | (refine Sy.sx_oldCut T F (h := ?_); conv => whnf)); clear T; intro ac T) | (refine Sy.sx_pure T (h := ?_); clear T; intro ac T)); show Sy.wpUx _ _ _ _ _ _ _ _ _)
    | (with_reducible refine Sy.sx_fork ?_ ?_)
    | (with_reducible refine Sy.sx_nil ?_)
    | (with_reducible refine Sy.sx_end ?_)
    | (with_reducible refine Sy.sx_tail rfl rfl (fun K hK => ?_))
    | ((first | refine Sy.sx_new (T := T) (F := F) (hr := Sy.new_boxAgg T rfl) (h := ?_) | refine Sy.sx_new (T := T) (F := F) (hr := Sy.new_boxOne T rfl rfl) (h := ?_) | refine Sy.sx_new (T := T) (F := F) (hr := Sy.new_alloc rfl) (h := ?_)); clear T F; intro ac g w T F)
    | ((first | refine Sy.sx_storeAll (T := T) (F := F) (h := ?_) | (refine Sy.sx_storeOne (T := T) (F := F) (h := ?_); conv => whnf) | (refine Sy.sx_storeAgg (T := T) (F := F) (h := ?_); conv => whnf)); clear T F; intro ac w T F))
    refine Sy.sx_callV0 rfl T F (hc := rsame22 F.sub hq1 hq2) (h := ?_); (clear T F; intro ac w T F)
    repeat (first
    | (((with_reducible refine Sy.is_load ?_); (first | refine Sy.st_loadOne T F (h := ?_) | refine Sy.st_oldOne T F (h := ?_) | refine Sy.st_loadAll T F (h := ?_) | (refine Sy.st_loadCut T F (h := ?_); conv => whnf) | refine Sy.st_oldAgg T F (h := ?_) | (refine Sy.st_oldCut T F (h := ?_); conv => whnf)); clear T; intro ac T))
    | (((with_reducible refine Sy.is_store ?_); (first | refine Sy.st_storeAll T F (h := ?_) | (refine Sy.st_storeOne T F (h := ?_); conv => whnf) | (refine Sy.st_storeAgg T F (h := ?_); conv => whnf)); clear T F; intro ac w T F))
    | (((with_reducible refine Sy.is_box ?_); (first | refine Sy.st_boxAgg T F (h := ?_) | refine Sy.st_boxOne T F (h := ?_)); clear T F; intro ac g w T F))
    | (((with_reducible refine Sy.is_alloc ?_); refine Sy.st_alloc T F (h := ?_); clear T F; intro ac g w T F))
    | (((with_reducible refine Sy.is_op ?_); refine Sy.st_pure T (h := ?_); clear T; intro ac T))
    | ((with_reducible refine Sy.atK (hK _ _ ?_)))
    | ((with_reducible refine Sy.is_cond ?_); (first | refine Sy.st_true T (h := ?_) | refine Sy.st_false T (h := ?_)))
    | (with_reducible refine wpList_nil ?_)
    | (with_reducible refine wp_region_lit ?_)
    | (with_reducible refine wp_block ?_)
    | (with_reducible refine wp_skip ?_)
    | (with_reducible refine wp_exit ?_)
    | (with_reducible refine wp_ret ?_)
    | ((with_reducible refine wp_seq_k ?_); intro _ _)
    | (go_at_K; go_step)
    | (simp only [Exit.then, Exit.inBlock, ↓reduceIte, Nat.reduceEqDiff])
    | ((with_reducible refine Sy.is_drawn (id := 4) ?_); refine Sy.sx_regionW T F 4 rfl (.t 0 (.t 1 (.t 2 (.t 3 (.t 4 (.h 5 (.h 6 (.h 7 (.t 8 .e))))))))) [] (by kernel_rfl) ?_; (clear F; intro w F); dsimp only)
    | ((with_reducible refine Sy.is_drawn (id := 7) ?_); refine Sy.sx_regionW T F 4 rfl (.t 0 (.t 1 (.t 2 (.t 3 (.t 4 (.t 5 (.t 6 (.h 7 (.h 8 (.h 9 (.t 10 .e))))))))))) [] (by kernel_rfl) ?_; (clear F; intro w F); dsimp only)
    | ((with_reducible refine Sy.is_drawn (id := 9) ?_); refine Sy.sx_regionW T F 4 rfl (.t 0 (.t 1 (.t 2 (.t 3 (.t 4 (.t 5 (.t 6 (.h 7 (.h 8 (.h 9 (.t 10 .e))))))))))) [] (by kernel_rfl) ?_; (clear F; intro w F); dsimp only)
    | ((first | refine Sy.sx_plain (h := ?_) | refine Sy.sx_guard (T := T) (h := ?_)); (first | ((with_reducible refine Sy.ux_load ?_); (first | refine Sy.sx_val (Sy.rx_loadOne T F) T rfl ?_ | refine Sy.sx_val (Sy.rx_oldOne T F) T rfl ?_ | refine Sy.sx_val (Sy.rx_loadAll T F) T rfl ?_ | (refine Sy.sx_loadCut T F (h := ?_); conv => whnf) | refine Sy.sx_val (Sy.rx_oldAgg T F) T rfl ?_ | (refine Sy.sx_oldCut T F (h := ?_); conv => whnf)); clear T; intro ac T) | (refine Sy.sx_pure T (h := ?_); clear T; intro ac T)); show Sy.wpUx _ _ _ _ _ _ _ _ _)
    | (with_reducible refine Sy.sx_fork ?_ ?_)
    | (with_reducible refine Sy.sx_nil ?_)
    | (with_reducible refine Sy.sx_end ?_)
    | (with_reducible refine Sy.sx_tail rfl rfl (fun K hK => ?_))
    | ((first | refine Sy.sx_new (T := T) (F := F) (hr := Sy.new_boxAgg T rfl) (h := ?_) | refine Sy.sx_new (T := T) (F := F) (hr := Sy.new_boxOne T rfl rfl) (h := ?_) | refine Sy.sx_new (T := T) (F := F) (hr := Sy.new_alloc rfl) (h := ?_)); clear T F; intro ac g w T F)
    | ((first | refine Sy.sx_storeAll (T := T) (F := F) (h := ?_) | (refine Sy.sx_storeOne (T := T) (F := F) (h := ?_); conv => whnf) | (refine Sy.sx_storeAgg (T := T) (F := F) (h := ?_); conv => whnf)); clear T F; intro ac w T F))
    ((try simp only [Exit.inBlock, Exit.then]); refine Sy.st_ret2 T F rfl (by repeat (first | exact Sy.ResV.nil | apply Sy.ResV.tmp rfl | apply Sy.ResV.row rfl rfl rfl (by repeat (first | exact Sy.Take.here | apply Sy.Take.there)) (by rfl) | apply Sy.ResV.one rfl rfl rfl (by repeat (first | exact Sy.Take.here | apply Sy.Take.there)) (by rfl))) ?_)
    exact F.retM ⟨q1, rfl, hq1⟩
  have t0 := eqF h0
  by_cases h1 : a.kind = 1
  · have t1 := eqT h1
    have he : stepS x a = visitS x a.node a.set := by unfold stepS; rw [if_neg h0, if_pos h1]
    rw [he]; clear he
    refine Sy.enter Try.func20 rfl Try.ntmps20 rfl ?_; intro ac T; simp only [Sy.enum, Nat.zero_add, Nat.reduceAdd] at T
    repeat (first
    | (((with_reducible refine Sy.is_load ?_); (first | refine Sy.st_loadOne T F (h := ?_) | refine Sy.st_oldOne T F (h := ?_) | refine Sy.st_loadAll T F (h := ?_) | (refine Sy.st_loadCut T F (h := ?_); conv => whnf) | refine Sy.st_oldAgg T F (h := ?_) | (refine Sy.st_oldCut T F (h := ?_); conv => whnf)); clear T; intro ac T))
    | (((with_reducible refine Sy.is_store ?_); (first | refine Sy.st_storeAll T F (h := ?_) | (refine Sy.st_storeOne T F (h := ?_); conv => whnf) | (refine Sy.st_storeAgg T F (h := ?_); conv => whnf)); clear T F; intro ac w T F))
    | (((with_reducible refine Sy.is_box ?_); (first | refine Sy.st_boxAgg T F (h := ?_) | refine Sy.st_boxOne T F (h := ?_)); clear T F; intro ac g w T F))
    | (((with_reducible refine Sy.is_alloc ?_); refine Sy.st_alloc T F (h := ?_); clear T F; intro ac g w T F))
    | (((with_reducible refine Sy.is_op ?_); refine Sy.st_pure T (h := ?_); clear T; intro ac T))
    | ((with_reducible refine Sy.atK (hK _ _ ?_)))
    | ((with_reducible refine Sy.is_cond ?_); (first | refine Sy.st_true T (h := ?_) | refine Sy.st_false T (h := ?_)))
    | (with_reducible refine wpList_nil ?_)
    | (with_reducible refine wp_region_lit ?_)
    | (with_reducible refine wp_block ?_)
    | (with_reducible refine wp_skip ?_)
    | (with_reducible refine wp_exit ?_)
    | (with_reducible refine wp_ret ?_)
    | ((with_reducible refine wp_seq_k ?_); intro _ _)
    | (go_at_K; go_step)
    | (simp only [Exit.then, Exit.inBlock, ↓reduceIte, Nat.reduceEqDiff])
    | ((with_reducible refine Sy.is_drawn (id := 4) ?_); refine Sy.sx_regionW T F 4 rfl (.t 0 (.t 1 (.t 2 (.t 3 (.t 4 (.h 5 (.h 6 (.h 7 (.t 8 .e))))))))) [] (by kernel_rfl) ?_; (clear F; intro w F); dsimp only)
    | ((with_reducible refine Sy.is_drawn (id := 7) ?_); refine Sy.sx_regionW T F 4 rfl (.t 0 (.t 1 (.t 2 (.t 3 (.t 4 (.t 5 (.t 6 (.h 7 (.h 8 (.h 9 (.t 10 .e))))))))))) [] (by kernel_rfl) ?_; (clear F; intro w F); dsimp only)
    | ((with_reducible refine Sy.is_drawn (id := 9) ?_); refine Sy.sx_regionW T F 4 rfl (.t 0 (.t 1 (.t 2 (.t 3 (.t 4 (.t 5 (.t 6 (.h 7 (.h 8 (.h 9 (.t 10 .e))))))))))) [] (by kernel_rfl) ?_; (clear F; intro w F); dsimp only)
    | ((first | refine Sy.sx_plain (h := ?_) | refine Sy.sx_guard (T := T) (h := ?_)); (first | ((with_reducible refine Sy.ux_load ?_); (first | refine Sy.sx_val (Sy.rx_loadOne T F) T rfl ?_ | refine Sy.sx_val (Sy.rx_oldOne T F) T rfl ?_ | refine Sy.sx_val (Sy.rx_loadAll T F) T rfl ?_ | (refine Sy.sx_loadCut T F (h := ?_); conv => whnf) | refine Sy.sx_val (Sy.rx_oldAgg T F) T rfl ?_ | (refine Sy.sx_oldCut T F (h := ?_); conv => whnf)); clear T; intro ac T) | (refine Sy.sx_pure T (h := ?_); clear T; intro ac T)); show Sy.wpUx _ _ _ _ _ _ _ _ _)
    | (with_reducible refine Sy.sx_fork ?_ ?_)
    | (with_reducible refine Sy.sx_nil ?_)
    | (with_reducible refine Sy.sx_end ?_)
    | (with_reducible refine Sy.sx_tail rfl rfl (fun K hK => ?_))
    | ((first | refine Sy.sx_new (T := T) (F := F) (hr := Sy.new_boxAgg T rfl) (h := ?_) | refine Sy.sx_new (T := T) (F := F) (hr := Sy.new_boxOne T rfl rfl) (h := ?_) | refine Sy.sx_new (T := T) (F := F) (hr := Sy.new_alloc rfl) (h := ?_)); clear T F; intro ac g w T F)
    | ((first | refine Sy.sx_storeAll (T := T) (F := F) (h := ?_) | (refine Sy.sx_storeOne (T := T) (F := F) (h := ?_); conv => whnf) | (refine Sy.sx_storeAgg (T := T) (F := F) (h := ?_); conv => whnf)); clear T F; intro ac w T F))
    refine Sy.st_callM0 T F (hc := visitM F.sub h a.node a.set hst hn) (h := ?_); (clear T F; intro v m ac w hR hS T F)
    obtain ⟨q1, rfl, hq1⟩ := hR
    replace h := h.sub hS
    repeat (first
    | (((with_reducible refine Sy.is_load ?_); (first | refine Sy.st_loadOne T F (h := ?_) | refine Sy.st_oldOne T F (h := ?_) | refine Sy.st_loadAll T F (h := ?_) | (refine Sy.st_loadCut T F (h := ?_); conv => whnf) | refine Sy.st_oldAgg T F (h := ?_) | (refine Sy.st_oldCut T F (h := ?_); conv => whnf)); clear T; intro ac T))
    | (((with_reducible refine Sy.is_store ?_); (first | refine Sy.st_storeAll T F (h := ?_) | (refine Sy.st_storeOne T F (h := ?_); conv => whnf) | (refine Sy.st_storeAgg T F (h := ?_); conv => whnf)); clear T F; intro ac w T F))
    | (((with_reducible refine Sy.is_box ?_); (first | refine Sy.st_boxAgg T F (h := ?_) | refine Sy.st_boxOne T F (h := ?_)); clear T F; intro ac g w T F))
    | (((with_reducible refine Sy.is_alloc ?_); refine Sy.st_alloc T F (h := ?_); clear T F; intro ac g w T F))
    | (((with_reducible refine Sy.is_op ?_); refine Sy.st_pure T (h := ?_); clear T; intro ac T))
    | ((with_reducible refine Sy.atK (hK _ _ ?_)))
    | ((with_reducible refine Sy.is_cond ?_); (first | refine Sy.st_true T (h := ?_) | refine Sy.st_false T (h := ?_)))
    | (with_reducible refine wpList_nil ?_)
    | (with_reducible refine wp_region_lit ?_)
    | (with_reducible refine wp_block ?_)
    | (with_reducible refine wp_skip ?_)
    | (with_reducible refine wp_exit ?_)
    | (with_reducible refine wp_ret ?_)
    | ((with_reducible refine wp_seq_k ?_); intro _ _)
    | (go_at_K; go_step)
    | (simp only [Exit.then, Exit.inBlock, ↓reduceIte, Nat.reduceEqDiff])
    | ((with_reducible refine Sy.is_drawn (id := 4) ?_); refine Sy.sx_regionW T F 4 rfl (.t 0 (.t 1 (.t 2 (.t 3 (.t 4 (.h 5 (.h 6 (.h 7 (.t 8 .e))))))))) [] (by kernel_rfl) ?_; (clear F; intro w F); dsimp only)
    | ((with_reducible refine Sy.is_drawn (id := 7) ?_); refine Sy.sx_regionW T F 4 rfl (.t 0 (.t 1 (.t 2 (.t 3 (.t 4 (.t 5 (.t 6 (.h 7 (.h 8 (.h 9 (.t 10 .e))))))))))) [] (by kernel_rfl) ?_; (clear F; intro w F); dsimp only)
    | ((with_reducible refine Sy.is_drawn (id := 9) ?_); refine Sy.sx_regionW T F 4 rfl (.t 0 (.t 1 (.t 2 (.t 3 (.t 4 (.t 5 (.t 6 (.h 7 (.h 8 (.h 9 (.t 10 .e))))))))))) [] (by kernel_rfl) ?_; (clear F; intro w F); dsimp only)
    | ((first | refine Sy.sx_plain (h := ?_) | refine Sy.sx_guard (T := T) (h := ?_)); (first | ((with_reducible refine Sy.ux_load ?_); (first | refine Sy.sx_val (Sy.rx_loadOne T F) T rfl ?_ | refine Sy.sx_val (Sy.rx_oldOne T F) T rfl ?_ | refine Sy.sx_val (Sy.rx_loadAll T F) T rfl ?_ | (refine Sy.sx_loadCut T F (h := ?_); conv => whnf) | refine Sy.sx_val (Sy.rx_oldAgg T F) T rfl ?_ | (refine Sy.sx_oldCut T F (h := ?_); conv => whnf)); clear T; intro ac T) | (refine Sy.sx_pure T (h := ?_); clear T; intro ac T)); show Sy.wpUx _ _ _ _ _ _ _ _ _)
    | (with_reducible refine Sy.sx_fork ?_ ?_)
    | (with_reducible refine Sy.sx_nil ?_)
    | (with_reducible refine Sy.sx_end ?_)
    | (with_reducible refine Sy.sx_tail rfl rfl (fun K hK => ?_))
    | ((first | refine Sy.sx_new (T := T) (F := F) (hr := Sy.new_boxAgg T rfl) (h := ?_) | refine Sy.sx_new (T := T) (F := F) (hr := Sy.new_boxOne T rfl rfl) (h := ?_) | refine Sy.sx_new (T := T) (F := F) (hr := Sy.new_alloc rfl) (h := ?_)); clear T F; intro ac g w T F)
    | ((first | refine Sy.sx_storeAll (T := T) (F := F) (h := ?_) | (refine Sy.sx_storeOne (T := T) (F := F) (h := ?_); conv => whnf) | (refine Sy.sx_storeAgg (T := T) (F := F) (h := ?_); conv => whnf)); clear T F; intro ac w T F))
    refine Sy.sx_callM0 rfl T F (hc := rvisitM F.sub h a.node a.set hst hn) (h := ?_); (clear T F; intro v m ac w hR hS T F)
    obtain ⟨q2, rfl, hq2⟩ := hR
    replace hq1 := hq1.sub hS
    repeat (first
    | (((with_reducible refine Sy.is_load ?_); (first | refine Sy.st_loadOne T F (h := ?_) | refine Sy.st_oldOne T F (h := ?_) | refine Sy.st_loadAll T F (h := ?_) | (refine Sy.st_loadCut T F (h := ?_); conv => whnf) | refine Sy.st_oldAgg T F (h := ?_) | (refine Sy.st_oldCut T F (h := ?_); conv => whnf)); clear T; intro ac T))
    | (((with_reducible refine Sy.is_store ?_); (first | refine Sy.st_storeAll T F (h := ?_) | (refine Sy.st_storeOne T F (h := ?_); conv => whnf) | (refine Sy.st_storeAgg T F (h := ?_); conv => whnf)); clear T F; intro ac w T F))
    | (((with_reducible refine Sy.is_box ?_); (first | refine Sy.st_boxAgg T F (h := ?_) | refine Sy.st_boxOne T F (h := ?_)); clear T F; intro ac g w T F))
    | (((with_reducible refine Sy.is_alloc ?_); refine Sy.st_alloc T F (h := ?_); clear T F; intro ac g w T F))
    | (((with_reducible refine Sy.is_op ?_); refine Sy.st_pure T (h := ?_); clear T; intro ac T))
    | ((with_reducible refine Sy.atK (hK _ _ ?_)))
    | ((with_reducible refine Sy.is_cond ?_); (first | refine Sy.st_true T (h := ?_) | refine Sy.st_false T (h := ?_)))
    | (with_reducible refine wpList_nil ?_)
    | (with_reducible refine wp_region_lit ?_)
    | (with_reducible refine wp_block ?_)
    | (with_reducible refine wp_skip ?_)
    | (with_reducible refine wp_exit ?_)
    | (with_reducible refine wp_ret ?_)
    | ((with_reducible refine wp_seq_k ?_); intro _ _)
    | (go_at_K; go_step)
    | (simp only [Exit.then, Exit.inBlock, ↓reduceIte, Nat.reduceEqDiff])
    | ((with_reducible refine Sy.is_drawn (id := 4) ?_); refine Sy.sx_regionW T F 4 rfl (.t 0 (.t 1 (.t 2 (.t 3 (.t 4 (.h 5 (.h 6 (.h 7 (.t 8 .e))))))))) [] (by kernel_rfl) ?_; (clear F; intro w F); dsimp only)
    | ((with_reducible refine Sy.is_drawn (id := 7) ?_); refine Sy.sx_regionW T F 4 rfl (.t 0 (.t 1 (.t 2 (.t 3 (.t 4 (.t 5 (.t 6 (.h 7 (.h 8 (.h 9 (.t 10 .e))))))))))) [] (by kernel_rfl) ?_; (clear F; intro w F); dsimp only)
    | ((with_reducible refine Sy.is_drawn (id := 9) ?_); refine Sy.sx_regionW T F 4 rfl (.t 0 (.t 1 (.t 2 (.t 3 (.t 4 (.t 5 (.t 6 (.h 7 (.h 8 (.h 9 (.t 10 .e))))))))))) [] (by kernel_rfl) ?_; (clear F; intro w F); dsimp only)
    | ((first | refine Sy.sx_plain (h := ?_) | refine Sy.sx_guard (T := T) (h := ?_)); (first | ((with_reducible refine Sy.ux_load ?_); (first | refine Sy.sx_val (Sy.rx_loadOne T F) T rfl ?_ | refine Sy.sx_val (Sy.rx_oldOne T F) T rfl ?_ | refine Sy.sx_val (Sy.rx_loadAll T F) T rfl ?_ | (refine Sy.sx_loadCut T F (h := ?_); conv => whnf) | refine Sy.sx_val (Sy.rx_oldAgg T F) T rfl ?_ | (refine Sy.sx_oldCut T F (h := ?_); conv => whnf)); clear T; intro ac T) | (refine Sy.sx_pure T (h := ?_); clear T; intro ac T)); show Sy.wpUx _ _ _ _ _ _ _ _ _)
    | (with_reducible refine Sy.sx_fork ?_ ?_)
    | (with_reducible refine Sy.sx_nil ?_)
    | (with_reducible refine Sy.sx_end ?_)
    | (with_reducible refine Sy.sx_tail rfl rfl (fun K hK => ?_))
    | ((first | refine Sy.sx_new (T := T) (F := F) (hr := Sy.new_boxAgg T rfl) (h := ?_) | refine Sy.sx_new (T := T) (F := F) (hr := Sy.new_boxOne T rfl rfl) (h := ?_) | refine Sy.sx_new (T := T) (F := F) (hr := Sy.new_alloc rfl) (h := ?_)); clear T F; intro ac g w T F)
    | ((first | refine Sy.sx_storeAll (T := T) (F := F) (h := ?_) | (refine Sy.sx_storeOne (T := T) (F := F) (h := ?_); conv => whnf) | (refine Sy.sx_storeAgg (T := T) (F := F) (h := ?_); conv => whnf)); clear T F; intro ac w T F))
    refine Sy.sx_callV0 rfl T F (hc := rsame22 F.sub hq1 hq2) (h := ?_); (clear T F; intro ac w T F)
    repeat (first
    | (((with_reducible refine Sy.is_load ?_); (first | refine Sy.st_loadOne T F (h := ?_) | refine Sy.st_oldOne T F (h := ?_) | refine Sy.st_loadAll T F (h := ?_) | (refine Sy.st_loadCut T F (h := ?_); conv => whnf) | refine Sy.st_oldAgg T F (h := ?_) | (refine Sy.st_oldCut T F (h := ?_); conv => whnf)); clear T; intro ac T))
    | (((with_reducible refine Sy.is_store ?_); (first | refine Sy.st_storeAll T F (h := ?_) | (refine Sy.st_storeOne T F (h := ?_); conv => whnf) | (refine Sy.st_storeAgg T F (h := ?_); conv => whnf)); clear T F; intro ac w T F))
    | (((with_reducible refine Sy.is_box ?_); (first | refine Sy.st_boxAgg T F (h := ?_) | refine Sy.st_boxOne T F (h := ?_)); clear T F; intro ac g w T F))
    | (((with_reducible refine Sy.is_alloc ?_); refine Sy.st_alloc T F (h := ?_); clear T F; intro ac g w T F))
    | (((with_reducible refine Sy.is_op ?_); refine Sy.st_pure T (h := ?_); clear T; intro ac T))
    | ((with_reducible refine Sy.atK (hK _ _ ?_)))
    | ((with_reducible refine Sy.is_cond ?_); (first | refine Sy.st_true T (h := ?_) | refine Sy.st_false T (h := ?_)))
    | (with_reducible refine wpList_nil ?_)
    | (with_reducible refine wp_region_lit ?_)
    | (with_reducible refine wp_block ?_)
    | (with_reducible refine wp_skip ?_)
    | (with_reducible refine wp_exit ?_)
    | (with_reducible refine wp_ret ?_)
    | ((with_reducible refine wp_seq_k ?_); intro _ _)
    | (go_at_K; go_step)
    | (simp only [Exit.then, Exit.inBlock, ↓reduceIte, Nat.reduceEqDiff])
    | ((with_reducible refine Sy.is_drawn (id := 4) ?_); refine Sy.sx_regionW T F 4 rfl (.t 0 (.t 1 (.t 2 (.t 3 (.t 4 (.h 5 (.h 6 (.h 7 (.t 8 .e))))))))) [] (by kernel_rfl) ?_; (clear F; intro w F); dsimp only)
    | ((with_reducible refine Sy.is_drawn (id := 7) ?_); refine Sy.sx_regionW T F 4 rfl (.t 0 (.t 1 (.t 2 (.t 3 (.t 4 (.t 5 (.t 6 (.h 7 (.h 8 (.h 9 (.t 10 .e))))))))))) [] (by kernel_rfl) ?_; (clear F; intro w F); dsimp only)
    | ((with_reducible refine Sy.is_drawn (id := 9) ?_); refine Sy.sx_regionW T F 4 rfl (.t 0 (.t 1 (.t 2 (.t 3 (.t 4 (.t 5 (.t 6 (.h 7 (.h 8 (.h 9 (.t 10 .e))))))))))) [] (by kernel_rfl) ?_; (clear F; intro w F); dsimp only)
    | ((first | refine Sy.sx_plain (h := ?_) | refine Sy.sx_guard (T := T) (h := ?_)); (first | ((with_reducible refine Sy.ux_load ?_); (first | refine Sy.sx_val (Sy.rx_loadOne T F) T rfl ?_ | refine Sy.sx_val (Sy.rx_oldOne T F) T rfl ?_ | refine Sy.sx_val (Sy.rx_loadAll T F) T rfl ?_ | (refine Sy.sx_loadCut T F (h := ?_); conv => whnf) | refine Sy.sx_val (Sy.rx_oldAgg T F) T rfl ?_ | (refine Sy.sx_oldCut T F (h := ?_); conv => whnf)); clear T; intro ac T) | (refine Sy.sx_pure T (h := ?_); clear T; intro ac T)); show Sy.wpUx _ _ _ _ _ _ _ _ _)
    | (with_reducible refine Sy.sx_fork ?_ ?_)
    | (with_reducible refine Sy.sx_nil ?_)
    | (with_reducible refine Sy.sx_end ?_)
    | (with_reducible refine Sy.sx_tail rfl rfl (fun K hK => ?_))
    | ((first | refine Sy.sx_new (T := T) (F := F) (hr := Sy.new_boxAgg T rfl) (h := ?_) | refine Sy.sx_new (T := T) (F := F) (hr := Sy.new_boxOne T rfl rfl) (h := ?_) | refine Sy.sx_new (T := T) (F := F) (hr := Sy.new_alloc rfl) (h := ?_)); clear T F; intro ac g w T F)
    | ((first | refine Sy.sx_storeAll (T := T) (F := F) (h := ?_) | (refine Sy.sx_storeOne (T := T) (F := F) (h := ?_); conv => whnf) | (refine Sy.sx_storeAgg (T := T) (F := F) (h := ?_); conv => whnf)); clear T F; intro ac w T F))
    ((try simp only [Exit.inBlock, Exit.then]); refine Sy.st_ret2 T F rfl (by repeat (first | exact Sy.ResV.nil | apply Sy.ResV.tmp rfl | apply Sy.ResV.row rfl rfl rfl (by repeat (first | exact Sy.Take.here | apply Sy.Take.there)) (by rfl) | apply Sy.ResV.one rfl rfl rfl (by repeat (first | exact Sy.Take.here | apply Sy.Take.there)) (by rfl))) ?_)
    exact F.retM ⟨q1, rfl, hq1⟩
  · have t1 := eqF h1
    have he : stepS x a = eraseS x a.node a.set := by unfold stepS; rw [if_neg h0, if_neg h1]
    rw [he]; clear he
    refine Sy.enter Try.func20 rfl Try.ntmps20 rfl ?_; intro ac T; simp only [Sy.enum, Nat.zero_add, Nat.reduceAdd] at T
    repeat (first
    | (((with_reducible refine Sy.is_load ?_); (first | refine Sy.st_loadOne T F (h := ?_) | refine Sy.st_oldOne T F (h := ?_) | refine Sy.st_loadAll T F (h := ?_) | (refine Sy.st_loadCut T F (h := ?_); conv => whnf) | refine Sy.st_oldAgg T F (h := ?_) | (refine Sy.st_oldCut T F (h := ?_); conv => whnf)); clear T; intro ac T))
    | (((with_reducible refine Sy.is_store ?_); (first | refine Sy.st_storeAll T F (h := ?_) | (refine Sy.st_storeOne T F (h := ?_); conv => whnf) | (refine Sy.st_storeAgg T F (h := ?_); conv => whnf)); clear T F; intro ac w T F))
    | (((with_reducible refine Sy.is_box ?_); (first | refine Sy.st_boxAgg T F (h := ?_) | refine Sy.st_boxOne T F (h := ?_)); clear T F; intro ac g w T F))
    | (((with_reducible refine Sy.is_alloc ?_); refine Sy.st_alloc T F (h := ?_); clear T F; intro ac g w T F))
    | (((with_reducible refine Sy.is_op ?_); refine Sy.st_pure T (h := ?_); clear T; intro ac T))
    | ((with_reducible refine Sy.atK (hK _ _ ?_)))
    | ((with_reducible refine Sy.is_cond ?_); (first | refine Sy.st_true T (h := ?_) | refine Sy.st_false T (h := ?_)))
    | (with_reducible refine wpList_nil ?_)
    | (with_reducible refine wp_region_lit ?_)
    | (with_reducible refine wp_block ?_)
    | (with_reducible refine wp_skip ?_)
    | (with_reducible refine wp_exit ?_)
    | (with_reducible refine wp_ret ?_)
    | ((with_reducible refine wp_seq_k ?_); intro _ _)
    | (go_at_K; go_step)
    | (simp only [Exit.then, Exit.inBlock, ↓reduceIte, Nat.reduceEqDiff])
    | ((with_reducible refine Sy.is_drawn (id := 4) ?_); refine Sy.sx_regionW T F 4 rfl (.t 0 (.t 1 (.t 2 (.t 3 (.t 4 (.h 5 (.h 6 (.h 7 (.t 8 .e))))))))) [] (by kernel_rfl) ?_; (clear F; intro w F); dsimp only)
    | ((with_reducible refine Sy.is_drawn (id := 7) ?_); refine Sy.sx_regionW T F 4 rfl (.t 0 (.t 1 (.t 2 (.t 3 (.t 4 (.t 5 (.t 6 (.h 7 (.h 8 (.h 9 (.t 10 .e))))))))))) [] (by kernel_rfl) ?_; (clear F; intro w F); dsimp only)
    | ((with_reducible refine Sy.is_drawn (id := 9) ?_); refine Sy.sx_regionW T F 4 rfl (.t 0 (.t 1 (.t 2 (.t 3 (.t 4 (.t 5 (.t 6 (.h 7 (.h 8 (.h 9 (.t 10 .e))))))))))) [] (by kernel_rfl) ?_; (clear F; intro w F); dsimp only)
    | ((first | refine Sy.sx_plain (h := ?_) | refine Sy.sx_guard (T := T) (h := ?_)); (first | ((with_reducible refine Sy.ux_load ?_); (first | refine Sy.sx_val (Sy.rx_loadOne T F) T rfl ?_ | refine Sy.sx_val (Sy.rx_oldOne T F) T rfl ?_ | refine Sy.sx_val (Sy.rx_loadAll T F) T rfl ?_ | (refine Sy.sx_loadCut T F (h := ?_); conv => whnf) | refine Sy.sx_val (Sy.rx_oldAgg T F) T rfl ?_ | (refine Sy.sx_oldCut T F (h := ?_); conv => whnf)); clear T; intro ac T) | (refine Sy.sx_pure T (h := ?_); clear T; intro ac T)); show Sy.wpUx _ _ _ _ _ _ _ _ _)
    | (with_reducible refine Sy.sx_fork ?_ ?_)
    | (with_reducible refine Sy.sx_nil ?_)
    | (with_reducible refine Sy.sx_end ?_)
    | (with_reducible refine Sy.sx_tail rfl rfl (fun K hK => ?_))
    | ((first | refine Sy.sx_new (T := T) (F := F) (hr := Sy.new_boxAgg T rfl) (h := ?_) | refine Sy.sx_new (T := T) (F := F) (hr := Sy.new_boxOne T rfl rfl) (h := ?_) | refine Sy.sx_new (T := T) (F := F) (hr := Sy.new_alloc rfl) (h := ?_)); clear T F; intro ac g w T F)
    | ((first | refine Sy.sx_storeAll (T := T) (F := F) (h := ?_) | (refine Sy.sx_storeOne (T := T) (F := F) (h := ?_); conv => whnf) | (refine Sy.sx_storeAgg (T := T) (F := F) (h := ?_); conv => whnf)); clear T F; intro ac w T F))
    refine Sy.st_callM0 T F (hc := eraseM F.sub h a.node a.set hst hn) (h := ?_); (clear T F; intro v m ac w hR hS T F)
    obtain ⟨q1, rfl, hq1⟩ := hR
    replace h := h.sub hS
    repeat (first
    | (((with_reducible refine Sy.is_load ?_); (first | refine Sy.st_loadOne T F (h := ?_) | refine Sy.st_oldOne T F (h := ?_) | refine Sy.st_loadAll T F (h := ?_) | (refine Sy.st_loadCut T F (h := ?_); conv => whnf) | refine Sy.st_oldAgg T F (h := ?_) | (refine Sy.st_oldCut T F (h := ?_); conv => whnf)); clear T; intro ac T))
    | (((with_reducible refine Sy.is_store ?_); (first | refine Sy.st_storeAll T F (h := ?_) | (refine Sy.st_storeOne T F (h := ?_); conv => whnf) | (refine Sy.st_storeAgg T F (h := ?_); conv => whnf)); clear T F; intro ac w T F))
    | (((with_reducible refine Sy.is_box ?_); (first | refine Sy.st_boxAgg T F (h := ?_) | refine Sy.st_boxOne T F (h := ?_)); clear T F; intro ac g w T F))
    | (((with_reducible refine Sy.is_alloc ?_); refine Sy.st_alloc T F (h := ?_); clear T F; intro ac g w T F))
    | (((with_reducible refine Sy.is_op ?_); refine Sy.st_pure T (h := ?_); clear T; intro ac T))
    | ((with_reducible refine Sy.atK (hK _ _ ?_)))
    | ((with_reducible refine Sy.is_cond ?_); (first | refine Sy.st_true T (h := ?_) | refine Sy.st_false T (h := ?_)))
    | (with_reducible refine wpList_nil ?_)
    | (with_reducible refine wp_region_lit ?_)
    | (with_reducible refine wp_block ?_)
    | (with_reducible refine wp_skip ?_)
    | (with_reducible refine wp_exit ?_)
    | (with_reducible refine wp_ret ?_)
    | ((with_reducible refine wp_seq_k ?_); intro _ _)
    | (go_at_K; go_step)
    | (simp only [Exit.then, Exit.inBlock, ↓reduceIte, Nat.reduceEqDiff])
    | ((with_reducible refine Sy.is_drawn (id := 4) ?_); refine Sy.sx_regionW T F 4 rfl (.t 0 (.t 1 (.t 2 (.t 3 (.t 4 (.h 5 (.h 6 (.h 7 (.t 8 .e))))))))) [] (by kernel_rfl) ?_; (clear F; intro w F); dsimp only)
    | ((with_reducible refine Sy.is_drawn (id := 7) ?_); refine Sy.sx_regionW T F 4 rfl (.t 0 (.t 1 (.t 2 (.t 3 (.t 4 (.t 5 (.t 6 (.h 7 (.h 8 (.h 9 (.t 10 .e))))))))))) [] (by kernel_rfl) ?_; (clear F; intro w F); dsimp only)
    | ((with_reducible refine Sy.is_drawn (id := 9) ?_); refine Sy.sx_regionW T F 4 rfl (.t 0 (.t 1 (.t 2 (.t 3 (.t 4 (.t 5 (.t 6 (.h 7 (.h 8 (.h 9 (.t 10 .e))))))))))) [] (by kernel_rfl) ?_; (clear F; intro w F); dsimp only)
    | ((first | refine Sy.sx_plain (h := ?_) | refine Sy.sx_guard (T := T) (h := ?_)); (first | ((with_reducible refine Sy.ux_load ?_); (first | refine Sy.sx_val (Sy.rx_loadOne T F) T rfl ?_ | refine Sy.sx_val (Sy.rx_oldOne T F) T rfl ?_ | refine Sy.sx_val (Sy.rx_loadAll T F) T rfl ?_ | (refine Sy.sx_loadCut T F (h := ?_); conv => whnf) | refine Sy.sx_val (Sy.rx_oldAgg T F) T rfl ?_ | (refine Sy.sx_oldCut T F (h := ?_); conv => whnf)); clear T; intro ac T) | (refine Sy.sx_pure T (h := ?_); clear T; intro ac T)); show Sy.wpUx _ _ _ _ _ _ _ _ _)
    | (with_reducible refine Sy.sx_fork ?_ ?_)
    | (with_reducible refine Sy.sx_nil ?_)
    | (with_reducible refine Sy.sx_end ?_)
    | (with_reducible refine Sy.sx_tail rfl rfl (fun K hK => ?_))
    | ((first | refine Sy.sx_new (T := T) (F := F) (hr := Sy.new_boxAgg T rfl) (h := ?_) | refine Sy.sx_new (T := T) (F := F) (hr := Sy.new_boxOne T rfl rfl) (h := ?_) | refine Sy.sx_new (T := T) (F := F) (hr := Sy.new_alloc rfl) (h := ?_)); clear T F; intro ac g w T F)
    | ((first | refine Sy.sx_storeAll (T := T) (F := F) (h := ?_) | (refine Sy.sx_storeOne (T := T) (F := F) (h := ?_); conv => whnf) | (refine Sy.sx_storeAgg (T := T) (F := F) (h := ?_); conv => whnf)); clear T F; intro ac w T F))
    refine Sy.sx_callM0 rfl T F (hc := reraseM F.sub h a.node a.set hst hn) (h := ?_); (clear T F; intro v m ac w hR hS T F)
    obtain ⟨q2, rfl, hq2⟩ := hR
    replace hq1 := hq1.sub hS
    repeat (first
    | (((with_reducible refine Sy.is_load ?_); (first | refine Sy.st_loadOne T F (h := ?_) | refine Sy.st_oldOne T F (h := ?_) | refine Sy.st_loadAll T F (h := ?_) | (refine Sy.st_loadCut T F (h := ?_); conv => whnf) | refine Sy.st_oldAgg T F (h := ?_) | (refine Sy.st_oldCut T F (h := ?_); conv => whnf)); clear T; intro ac T))
    | (((with_reducible refine Sy.is_store ?_); (first | refine Sy.st_storeAll T F (h := ?_) | (refine Sy.st_storeOne T F (h := ?_); conv => whnf) | (refine Sy.st_storeAgg T F (h := ?_); conv => whnf)); clear T F; intro ac w T F))
    | (((with_reducible refine Sy.is_box ?_); (first | refine Sy.st_boxAgg T F (h := ?_) | refine Sy.st_boxOne T F (h := ?_)); clear T F; intro ac g w T F))
    | (((with_reducible refine Sy.is_alloc ?_); refine Sy.st_alloc T F (h := ?_); clear T F; intro ac g w T F))
    | (((with_reducible refine Sy.is_op ?_); refine Sy.st_pure T (h := ?_); clear T; intro ac T))
    | ((with_reducible refine Sy.atK (hK _ _ ?_)))
    | ((with_reducible refine Sy.is_cond ?_); (first | refine Sy.st_true T (h := ?_) | refine Sy.st_false T (h := ?_)))
    | (with_reducible refine wpList_nil ?_)
    | (with_reducible refine wp_region_lit ?_)
    | (with_reducible refine wp_block ?_)
    | (with_reducible refine wp_skip ?_)
    | (with_reducible refine wp_exit ?_)
    | (with_reducible refine wp_ret ?_)
    | ((with_reducible refine wp_seq_k ?_); intro _ _)
    | (go_at_K; go_step)
    | (simp only [Exit.then, Exit.inBlock, ↓reduceIte, Nat.reduceEqDiff])
    | ((with_reducible refine Sy.is_drawn (id := 4) ?_); refine Sy.sx_regionW T F 4 rfl (.t 0 (.t 1 (.t 2 (.t 3 (.t 4 (.h 5 (.h 6 (.h 7 (.t 8 .e))))))))) [] (by kernel_rfl) ?_; (clear F; intro w F); dsimp only)
    | ((with_reducible refine Sy.is_drawn (id := 7) ?_); refine Sy.sx_regionW T F 4 rfl (.t 0 (.t 1 (.t 2 (.t 3 (.t 4 (.t 5 (.t 6 (.h 7 (.h 8 (.h 9 (.t 10 .e))))))))))) [] (by kernel_rfl) ?_; (clear F; intro w F); dsimp only)
    | ((with_reducible refine Sy.is_drawn (id := 9) ?_); refine Sy.sx_regionW T F 4 rfl (.t 0 (.t 1 (.t 2 (.t 3 (.t 4 (.t 5 (.t 6 (.h 7 (.h 8 (.h 9 (.t 10 .e))))))))))) [] (by kernel_rfl) ?_; (clear F; intro w F); dsimp only)
    | ((first | refine Sy.sx_plain (h := ?_) | refine Sy.sx_guard (T := T) (h := ?_)); (first | ((with_reducible refine Sy.ux_load ?_); (first | refine Sy.sx_val (Sy.rx_loadOne T F) T rfl ?_ | refine Sy.sx_val (Sy.rx_oldOne T F) T rfl ?_ | refine Sy.sx_val (Sy.rx_loadAll T F) T rfl ?_ | (refine Sy.sx_loadCut T F (h := ?_); conv => whnf) | refine Sy.sx_val (Sy.rx_oldAgg T F) T rfl ?_ | (refine Sy.sx_oldCut T F (h := ?_); conv => whnf)); clear T; intro ac T) | (refine Sy.sx_pure T (h := ?_); clear T; intro ac T)); show Sy.wpUx _ _ _ _ _ _ _ _ _)
    | (with_reducible refine Sy.sx_fork ?_ ?_)
    | (with_reducible refine Sy.sx_nil ?_)
    | (with_reducible refine Sy.sx_end ?_)
    | (with_reducible refine Sy.sx_tail rfl rfl (fun K hK => ?_))
    | ((first | refine Sy.sx_new (T := T) (F := F) (hr := Sy.new_boxAgg T rfl) (h := ?_) | refine Sy.sx_new (T := T) (F := F) (hr := Sy.new_boxOne T rfl rfl) (h := ?_) | refine Sy.sx_new (T := T) (F := F) (hr := Sy.new_alloc rfl) (h := ?_)); clear T F; intro ac g w T F)
    | ((first | refine Sy.sx_storeAll (T := T) (F := F) (h := ?_) | (refine Sy.sx_storeOne (T := T) (F := F) (h := ?_); conv => whnf) | (refine Sy.sx_storeAgg (T := T) (F := F) (h := ?_); conv => whnf)); clear T F; intro ac w T F))
    refine Sy.sx_callV0 rfl T F (hc := rsame22 F.sub hq1 hq2) (h := ?_); (clear T F; intro ac w T F)
    repeat (first
    | (((with_reducible refine Sy.is_load ?_); (first | refine Sy.st_loadOne T F (h := ?_) | refine Sy.st_oldOne T F (h := ?_) | refine Sy.st_loadAll T F (h := ?_) | (refine Sy.st_loadCut T F (h := ?_); conv => whnf) | refine Sy.st_oldAgg T F (h := ?_) | (refine Sy.st_oldCut T F (h := ?_); conv => whnf)); clear T; intro ac T))
    | (((with_reducible refine Sy.is_store ?_); (first | refine Sy.st_storeAll T F (h := ?_) | (refine Sy.st_storeOne T F (h := ?_); conv => whnf) | (refine Sy.st_storeAgg T F (h := ?_); conv => whnf)); clear T F; intro ac w T F))
    | (((with_reducible refine Sy.is_box ?_); (first | refine Sy.st_boxAgg T F (h := ?_) | refine Sy.st_boxOne T F (h := ?_)); clear T F; intro ac g w T F))
    | (((with_reducible refine Sy.is_alloc ?_); refine Sy.st_alloc T F (h := ?_); clear T F; intro ac g w T F))
    | (((with_reducible refine Sy.is_op ?_); refine Sy.st_pure T (h := ?_); clear T; intro ac T))
    | ((with_reducible refine Sy.atK (hK _ _ ?_)))
    | ((with_reducible refine Sy.is_cond ?_); (first | refine Sy.st_true T (h := ?_) | refine Sy.st_false T (h := ?_)))
    | (with_reducible refine wpList_nil ?_)
    | (with_reducible refine wp_region_lit ?_)
    | (with_reducible refine wp_block ?_)
    | (with_reducible refine wp_skip ?_)
    | (with_reducible refine wp_exit ?_)
    | (with_reducible refine wp_ret ?_)
    | ((with_reducible refine wp_seq_k ?_); intro _ _)
    | (go_at_K; go_step)
    | (simp only [Exit.then, Exit.inBlock, ↓reduceIte, Nat.reduceEqDiff])
    | ((with_reducible refine Sy.is_drawn (id := 4) ?_); refine Sy.sx_regionW T F 4 rfl (.t 0 (.t 1 (.t 2 (.t 3 (.t 4 (.h 5 (.h 6 (.h 7 (.t 8 .e))))))))) [] (by kernel_rfl) ?_; (clear F; intro w F); dsimp only)
    | ((with_reducible refine Sy.is_drawn (id := 7) ?_); refine Sy.sx_regionW T F 4 rfl (.t 0 (.t 1 (.t 2 (.t 3 (.t 4 (.t 5 (.t 6 (.h 7 (.h 8 (.h 9 (.t 10 .e))))))))))) [] (by kernel_rfl) ?_; (clear F; intro w F); dsimp only)
    | ((with_reducible refine Sy.is_drawn (id := 9) ?_); refine Sy.sx_regionW T F 4 rfl (.t 0 (.t 1 (.t 2 (.t 3 (.t 4 (.t 5 (.t 6 (.h 7 (.h 8 (.h 9 (.t 10 .e))))))))))) [] (by kernel_rfl) ?_; (clear F; intro w F); dsimp only)
    | ((first | refine Sy.sx_plain (h := ?_) | refine Sy.sx_guard (T := T) (h := ?_)); (first | ((with_reducible refine Sy.ux_load ?_); (first | refine Sy.sx_val (Sy.rx_loadOne T F) T rfl ?_ | refine Sy.sx_val (Sy.rx_oldOne T F) T rfl ?_ | refine Sy.sx_val (Sy.rx_loadAll T F) T rfl ?_ | (refine Sy.sx_loadCut T F (h := ?_); conv => whnf) | refine Sy.sx_val (Sy.rx_oldAgg T F) T rfl ?_ | (refine Sy.sx_oldCut T F (h := ?_); conv => whnf)); clear T; intro ac T) | (refine Sy.sx_pure T (h := ?_); clear T; intro ac T)); show Sy.wpUx _ _ _ _ _ _ _ _ _)
    | (with_reducible refine Sy.sx_fork ?_ ?_)
    | (with_reducible refine Sy.sx_nil ?_)
    | (with_reducible refine Sy.sx_end ?_)
    | (with_reducible refine Sy.sx_tail rfl rfl (fun K hK => ?_))
    | ((first | refine Sy.sx_new (T := T) (F := F) (hr := Sy.new_boxAgg T rfl) (h := ?_) | refine Sy.sx_new (T := T) (F := F) (hr := Sy.new_boxOne T rfl rfl) (h := ?_) | refine Sy.sx_new (T := T) (F := F) (hr := Sy.new_alloc rfl) (h := ?_)); clear T F; intro ac g w T F)
    | ((first | refine Sy.sx_storeAll (T := T) (F := F) (h := ?_) | (refine Sy.sx_storeOne (T := T) (F := F) (h := ?_); conv => whnf) | (refine Sy.sx_storeAgg (T := T) (F := F) (h := ?_); conv => whnf)); clear T F; intro ac w T F))
    ((try simp only [Exit.inBlock, Exit.then]); refine Sy.st_ret2 T F rfl (by repeat (first | exact Sy.ResV.nil | apply Sy.ResV.tmp rfl | apply Sy.ResV.row rfl rfl rfl (by repeat (first | exact Sy.Take.here | apply Sy.Take.there)) (by rfl) | apply Sy.ResV.one rfl rfl rfl (by repeat (first | exact Sy.Take.here | apply Sy.Take.there)) (by rfl))) ?_)
    exact F.retM ⟨q1, rfl, hq1⟩

def bigS (l : List ActD) : Bool := decide (40 < l.length) || l.any fun d => greatS d.a.reg
theorem i64_up {k n : Nat} (h : k < n) (hn : n ≤ maxLen) : IntKind.i64.wrap ((k : Int) + 1) = ((k + 1 : Nat) : Int) := by unfold maxLen at hn; rw [i64_wrap (by omega) (by omega)]; omega
theorem any_up {α : Type} {p : α → Bool} {l : List α} {k : Nat} (hk : k < l.length) (h : (l.take k).any p = false) (h' : p l[k] = false) : (l.take (k + 1)).any p = false := by rw [any_take p l k hk h]; exact h'

set_option maxRecDepth 20000 in
theorem great22M {w m : World} (hs : Sub m w) {a : Option Addr} {cap : Nat} {l : List ActD} (h : Acts m a l) :
    Calls Try.prog 17 #[.slice a l.length cap] w (RetV w (.bool (bigS l))) := by
  have F := Sy.Mem.start hs
  have hml := h.1
  by_cases hb : (l.length : Int) > 40
  · have tb : decide ((l.length : Int) > 40) = true := decide_eq_true hb
    have he : bigS l = true := by unfold bigS; rw [decide_eq_true (by omega)]; rfl
    rw [he]; clear he
    refine Sy.enter Try.func17 rfl Try.ntmps17 rfl ?_; intro ac T; simp only [Sy.enum, Nat.zero_add, Nat.reduceAdd] at T
    repeat (first
    | (((with_reducible refine Sy.is_load ?_); (first | refine Sy.st_loadOne T F (h := ?_) | refine Sy.st_oldOne T F (h := ?_) | refine Sy.st_loadAll T F (h := ?_) | (refine Sy.st_loadCut T F (h := ?_); conv => whnf) | refine Sy.st_oldAgg T F (h := ?_) | (refine Sy.st_oldCut T F (h := ?_); conv => whnf)); clear T; intro ac T))
    | (((with_reducible refine Sy.is_op ?_); refine Sy.st_pure T (h := ?_); clear T; intro ac T))
    | ((with_reducible refine Sy.atK (hK _ _ ?_)))
    | ((with_reducible refine Sy.is_cond ?_); (first | refine Sy.st_true T (h := ?_) | refine Sy.st_false T (h := ?_)))
    | (with_reducible refine wpList_nil ?_)
    | (with_reducible refine wp_region_lit ?_)
    | (with_reducible refine wp_block ?_)
    | (with_reducible refine wp_skip ?_)
    | (with_reducible refine wp_exit ?_)
    | (with_reducible refine wp_ret ?_)
    | ((with_reducible refine wp_seq_k ?_); intro _ _)
    | (go_at_K; go_step)
    | (simp only [Exit.then, Exit.inBlock, ↓reduceIte, Nat.reduceEqDiff]))
    ((try simp only [Exit.inBlock, Exit.then]); refine Sy.st_ret1 T F rfl (by repeat (first | exact Sy.ResV.nil | apply Sy.ResV.tmp rfl | apply Sy.ResV.row rfl rfl rfl (by repeat (first | exact Sy.Take.here | apply Sy.Take.there)) (by rfl) | apply Sy.ResV.one rfl rfl rfl (by repeat (first | exact Sy.Take.here | apply Sy.Take.there)) (by rfl))) ?_)
    exact F.retV _
  have tb : decide ((l.length : Int) > 40) = false := decide_eq_false hb
  have he : bigS l = l.any fun d => greatS d.a.reg := by unfold bigS; rw [decide_eq_false (by omega)]; rfl
  rw [he]; clear he
  refine Sy.enter Try.func17 rfl Try.ntmps17 rfl ?_; intro ac T; simp only [Sy.enum, Nat.zero_add, Nat.reduceAdd] at T
  repeat (first
    | (((with_reducible refine Sy.is_load ?_); (first | refine Sy.st_loadOne T F (h := ?_) | refine Sy.st_oldOne T F (h := ?_) | refine Sy.st_loadAll T F (h := ?_) | (refine Sy.st_loadCut T F (h := ?_); conv => whnf) | refine Sy.st_oldAgg T F (h := ?_) | (refine Sy.st_oldCut T F (h := ?_); conv => whnf)); clear T; intro ac T))
    | (((with_reducible refine Sy.is_op ?_); refine Sy.st_pure T (h := ?_); clear T; intro ac T))
    | ((with_reducible refine Sy.atK (hK _ _ ?_)))
    | ((with_reducible refine Sy.is_cond ?_); (first | refine Sy.st_true T (h := ?_) | refine Sy.st_false T (h := ?_)))
    | (with_reducible refine wpList_nil ?_)
    | (with_reducible refine wp_region_lit ?_)
    | (with_reducible refine wp_block ?_)
    | (with_reducible refine wp_skip ?_)
    | (with_reducible refine wp_exit ?_)
    | (with_reducible refine wp_ret ?_)
    | ((with_reducible refine wp_seq_k ?_); intro _ _)
    | (go_at_K; go_step)
    | (simp only [Exit.then, Exit.inBlock, ↓reduceIte, Nat.reduceEqDiff]))
  refine wp_loop_ghost_k (fun i ac w' => ∃ k : Nat, i = l.length - k ∧ k ≤ l.length ∧ (l.take k).any (fun d => greatS d.a.reg) = false ∧ Sy.Tm ac 20 [(0, .slice a l.length cap), (3, .int .i64 (k : Int))] ∧ Sy.Mem ⟨w, [], m⟩ m [] w') l.length ?_ ?_
  · exact ⟨0, rfl, Nat.zero_le _, rfl, (T.part (by repeat (first | exact Sy.Part.nil | apply Sy.Part.cons rfl))), F⟩
  intro i ac w' hI J K hJ hK
  obtain ⟨k, rfl, hk, hnone, T, F⟩ := hI
  by_cases hlt : k < l.length
  · have t1 : decide ((k : Int) < (l.length : Int)) = true := decide_eq_true (by omega)
    have t2 := i64_up hlt hml
    obtain ⟨b, o, cs, ha, hcl, hat, pr, q, hcs, hact⟩ := rows_get h hlt
    subst ha
    subst hcs
    repeat (first
    | (((with_reducible refine Sy.is_load ?_); (first | refine Sy.st_loadOne T F (h := ?_) | refine Sy.st_oldOne T F (h := ?_) | refine Sy.st_loadAll T F (h := ?_) | (refine Sy.st_loadCut T F (h := ?_); conv => whnf) | refine Sy.st_oldAgg T F (h := ?_) | (refine Sy.st_oldCut T F (h := ?_); conv => whnf)); clear T; intro ac T))
    | (((with_reducible refine Sy.is_op ?_); refine Sy.st_pure T (h := ?_); clear T; intro ac T))
    | ((with_reducible refine Sy.atK (hK _ _ ?_)))
    | ((with_reducible refine Sy.is_cond ?_); (first | refine Sy.st_true T (h := ?_) | refine Sy.st_false T (h := ?_)))
    | (with_reducible refine wpList_nil ?_)
    | (with_reducible refine wp_region_lit ?_)
    | (with_reducible refine wp_block ?_)
    | (with_reducible refine wp_skip ?_)
    | (with_reducible refine wp_exit ?_)
    | (with_reducible refine wp_ret ?_)
    | ((with_reducible refine wp_seq_k ?_); intro _ _)
    | (go_at_K; go_step)
    | (simp only [Exit.then, Exit.inBlock, ↓reduceIte, Nat.reduceEqDiff]))
    cases hg : greatS (l[k]).a.reg
    · refine Sy.st_callV0 T F (hc := greatM F.sub hact.1.reg hg) (h := ?_); (clear T F; intro ac w T F)
      repeat (first
    | (((with_reducible refine Sy.is_load ?_); (first | refine Sy.st_loadOne T F (h := ?_) | refine Sy.st_oldOne T F (h := ?_) | refine Sy.st_loadAll T F (h := ?_) | (refine Sy.st_loadCut T F (h := ?_); conv => whnf) | refine Sy.st_oldAgg T F (h := ?_) | (refine Sy.st_oldCut T F (h := ?_); conv => whnf)); clear T; intro ac T))
    | (((with_reducible refine Sy.is_op ?_); refine Sy.st_pure T (h := ?_); clear T; intro ac T))
    | ((with_reducible refine Sy.atK (hK _ _ ?_)))
    | ((with_reducible refine Sy.is_cond ?_); (first | refine Sy.st_true T (h := ?_) | refine Sy.st_false T (h := ?_)))
    | (with_reducible refine wpList_nil ?_)
    | (with_reducible refine wp_region_lit ?_)
    | (with_reducible refine wp_block ?_)
    | (with_reducible refine wp_skip ?_)
    | (with_reducible refine wp_exit ?_)
    | (with_reducible refine wp_ret ?_)
    | ((with_reducible refine wp_seq_k ?_); intro _ _)
    | (go_at_K; go_step)
    | (simp only [Exit.then, Exit.inBlock, ↓reduceIte, Nat.reduceEqDiff]))
      exact Sy.handed hJ (k := l.length - (k + 1)) (by omega) ⟨k + 1, rfl, by omega, any_up (p := fun d => greatS d.a.reg) hlt hnone hg, (T.part (by repeat (first | exact Sy.Part.nil | apply Sy.Part.cons rfl))), F⟩
    · refine Sy.st_callV0 T F (hc := greatM F.sub hact.1.reg hg) (h := ?_); (clear T F; intro ac w T F)
      repeat (first
    | (((with_reducible refine Sy.is_load ?_); (first | refine Sy.st_loadOne T F (h := ?_) | refine Sy.st_oldOne T F (h := ?_) | refine Sy.st_loadAll T F (h := ?_) | (refine Sy.st_loadCut T F (h := ?_); conv => whnf) | refine Sy.st_oldAgg T F (h := ?_) | (refine Sy.st_oldCut T F (h := ?_); conv => whnf)); clear T; intro ac T))
    | (((with_reducible refine Sy.is_op ?_); refine Sy.st_pure T (h := ?_); clear T; intro ac T))
    | ((with_reducible refine Sy.atK (hK _ _ ?_)))
    | ((with_reducible refine Sy.is_cond ?_); (first | refine Sy.st_true T (h := ?_) | refine Sy.st_false T (h := ?_)))
    | (with_reducible refine wpList_nil ?_)
    | (with_reducible refine wp_region_lit ?_)
    | (with_reducible refine wp_block ?_)
    | (with_reducible refine wp_skip ?_)
    | (with_reducible refine wp_exit ?_)
    | (with_reducible refine wp_ret ?_)
    | ((with_reducible refine wp_seq_k ?_); intro _ _)
    | (go_at_K; go_step)
    | (simp only [Exit.then, Exit.inBlock, ↓reduceIte, Nat.reduceEqDiff]))
      ((try simp only [Exit.inBlock, Exit.then]); refine Sy.st_ret1 T F rfl (by repeat (first | exact Sy.ResV.nil | apply Sy.ResV.tmp rfl | apply Sy.ResV.row rfl rfl rfl (by repeat (first | exact Sy.Take.here | apply Sy.Take.there)) (by rfl) | apply Sy.ResV.one rfl rfl rfl (by repeat (first | exact Sy.Take.here | apply Sy.Take.there)) (by rfl))) ?_)
      rw [any_hit (fun d : ActD => greatS d.a.reg) l k hlt hg]
      exact F.retV _
  · obtain rfl : k = l.length := by omega
    have t1 : decide ((l.length : Int) < (l.length : Int)) = false := decide_eq_false (by omega)
    rw [List.take_length] at hnone
    repeat (first
    | (((with_reducible refine Sy.is_load ?_); (first | refine Sy.st_loadOne T F (h := ?_) | refine Sy.st_oldOne T F (h := ?_) | refine Sy.st_loadAll T F (h := ?_) | (refine Sy.st_loadCut T F (h := ?_); conv => whnf) | refine Sy.st_oldAgg T F (h := ?_) | (refine Sy.st_oldCut T F (h := ?_); conv => whnf)); clear T; intro ac T))
    | (((with_reducible refine Sy.is_op ?_); refine Sy.st_pure T (h := ?_); clear T; intro ac T))
    | ((with_reducible refine Sy.atK (hK _ _ ?_)))
    | ((with_reducible refine Sy.is_cond ?_); (first | refine Sy.st_true T (h := ?_) | refine Sy.st_false T (h := ?_)))
    | (with_reducible refine wpList_nil ?_)
    | (with_reducible refine wp_region_lit ?_)
    | (with_reducible refine wp_block ?_)
    | (with_reducible refine wp_skip ?_)
    | (with_reducible refine wp_exit ?_)
    | (with_reducible refine wp_ret ?_)
    | ((with_reducible refine wp_seq_k ?_); intro _ _)
    | (go_at_K; go_step)
    | (simp only [Exit.then, Exit.inBlock, ↓reduceIte, Nat.reduceEqDiff]))
    ((try simp only [Exit.inBlock, Exit.then]); refine Sy.st_ret1 T F rfl (by repeat (first | exact Sy.ResV.nil | apply Sy.ResV.tmp rfl | apply Sy.ResV.row rfl rfl rfl (by repeat (first | exact Sy.Take.here | apply Sy.Take.there)) (by rfl) | apply Sy.ResV.one rfl rfl rfl (by repeat (first | exact Sy.Take.here | apply Sy.Take.there)) (by rfl))) ?_)
    rw [hnone]
    exact F.retV _
end Rg
end Go.Proofs.Ytiaogfjmhpkcmaa
