/- The walk of the document's reply at replies. No condition. -/
import Derived.Test.YtniopkoaplkpkaaMayC
namespace Go.Proofs.Ytniopkoaplkpkaa
open Go.RowKit
set_option linter.unusedVariables false
set_option linter.unusedSimpArgs false
namespace Rg
open Sy (RetV RetM Sub)
set_option maxRecDepth 20000 in
set_option maxHeartbeats 1000000 in
theorem replyR_any (w : World) (r : RepD) (p : RepA) {r0 : Bool} (hres : replyS r = r0) : Calls Try.prog 92 #[.agg (repCs r p).toArray] w (RetV w (.bool r0)) := by
  have F := Sy.Mem.start (Sub.refl w)
  subst hres
  have hx : replyS r = (decide (r.err ≥ 0) && (decide (r.err ≤ 99) && (decide (r.state ≥ 0) && (decide (r.state < 32) && decide ((r.vars.length : Int) ≤ 8))))) := by
    unfold replyS inS
    cases decide (r.err ≥ 0) <;> cases decide (r.err ≤ 99) <;> cases decide (r.state ≥ 0) <;> rfl
  rcases and5 (decide (r.err ≥ 0)) (decide (r.err ≤ 99)) (decide (r.state ≥ 0)) (decide (r.state < 32)) (decide ((r.vars.length : Int) ≤ 8)) with t1 | ⟨t1, t2⟩ | ⟨t1, t2, t3⟩ | ⟨t1, t2, t3, t4⟩ | ⟨t1, t2, t3, t4, t5⟩ | ⟨t1, t2, t3, t4, t5⟩
  all_goals
    refine Sy.enter Try.func92 rfl Try.ntmps92 rfl ?_; intro ac T; simp only [Sy.enum, Nat.zero_add, Nat.reduceAdd] at T
    repeat (first
    | (((with_reducible refine Sy.is_guard ?_); (first
    | refine Sy.st_guard T (h := ?_)
    | (refine Sy.st_unguard T (h := ?_); clear T; intro ac T))))
    | (((with_reducible refine Sy.is_load ?_); (refine Sy.st_loadOne T F (h := ?_)); clear T; intro ac T))
    | (((with_reducible refine Sy.is_box ?_); (refine Sy.st_boxAgg T F (h := ?_)); clear T F; intro ac g w T F))
    | (((with_reducible refine Sy.is_op ?_); refine Sy.st_pure T (h := ?_); clear T; intro ac T))
    | (with_reducible refine wpList_nil ?_)
    | (with_reducible refine wp_region_lit ?_)
    | (with_reducible refine wp_ret ?_)
    | ((with_reducible refine wp_seq_k ?_); intro _ _)
    | (go_at_K; go_step)
    | (simp only [Exit.then, Exit.inBlock, ↓reduceIte, Nat.reduceEqDiff]))
    ((try simp only [Exit.inBlock, Exit.then]); refine Sy.st_ret1 T F rfl (by repeat (first | exact Sy.ResV.nil | apply Sy.ResV.tmp rfl | apply Sy.ResV.row rfl rfl rfl (by repeat (first | exact Sy.Take.here | apply Sy.Take.there)) (by rfl) | apply Sy.ResV.one rfl rfl rfl (by repeat (first | exact Sy.Take.here | apply Sy.Take.there)) (by rfl))) ?_)
    exact retBb F (by first | (rw [hx, t1, t2, t3, t4, t5]; rfl) | (rw [hx, t1, t2, t3, t4]; rfl) | (rw [hx, t1, t2, t3]; rfl) | (rw [hx, t1, t2]; rfl) | (rw [hx, t1]; rfl))
end Rg
end Go.Proofs.Ytniopkoaplkpkaa
