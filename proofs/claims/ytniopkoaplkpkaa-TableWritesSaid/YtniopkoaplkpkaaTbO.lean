/- The walk of table.May. Conditions: the contract can be read. -/
import Derived.Test.YtniopkoaplkpkaaTbN
namespace Go.Proofs.Ytniopkoaplkpkaa
open Go.RowKit
set_option linter.unusedVariables false
set_option linter.unusedSimpArgs false
theorem Sy.at_own {w : World} {g : Nat} {cs : List Value} {t : TypeId} (h : w.heap[g]? = some (.cells cs.toArray t (0, 0))) : Sy.At w g 0 cs := fun j v hj => by simpa using Sy.cell_ownI h j hj
namespace Tb
open Sy (RetV RetM Sub)
open Rg (and2 and3 and4 and5 and6 and7 and8 and9 or2 or3 or4 or5 or6 or7 retBb not_t not_f eqT eqF i64_up i64_wrap ClosB any_up any_hit)
theorem rule_any (w : World) (r : RuleD) (p : RuleA) (h : RuleAt w r p) (t : TabD) (ta : Option Addr) (tc : Nat) {b : Bool} (hb : ruleS t.states t.vars r = b) :
    Calls Try.prog 85 #[.agg (ruleCs r p).toArray, .agg (tabCs t ta tc).toArray] w (RetV w (.bool b)) := by
  subst hb
  cases hh : headS t.states r with
  | false => rw [ruleS_head hh]; exact rule_head w r p t ta tc hh
  | true => exact rule_rest w r p h t ta tc hh
set_option maxRecDepth 20000 in
set_option maxHeartbeats 1000000 in
theorem may1_any (w : World) (r : RuleD) {cs : List Value} (hr : RuleR w cs r) (t : TabD) (ta : Option Addr) (tc g : Nat) (hg : Sy.At w g 0 (tabCs t ta tc)) {b : Bool} (hb : ruleS t.states t.vars r = b) : Calls Try.prog 84 #[.agg cs.toArray, .pointer (some ⟨g, 0, none⟩)] w (RetV w (.bool (!b))) := by
  obtain ⟨p, rfl, h⟩ := hr
  have F := Sy.Mem.start (Sub.refl w)
  refine Sy.enter Try.func84 rfl Try.ntmps84 rfl ?_; intro ac T; simp only [Sy.enum, Nat.zero_add, Nat.reduceAdd] at T
  repeat (first
    | (((with_reducible refine Sy.is_load ?_); (first
    | refine Sy.st_loadAll T F (h := ?_)
    | refine Sy.st_oldAgg T F (h := ?_)); clear T; intro ac T))
    | (((with_reducible refine Sy.is_box ?_); (refine Sy.st_boxAgg T F (h := ?_)); clear T F; intro ac g w T F))
    | (((with_reducible refine Sy.is_op ?_); refine Sy.st_pure T (h := ?_); clear T; intro ac T))
    | (with_reducible refine wpList_nil ?_)
    | (with_reducible refine wp_region_lit ?_)
    | ((with_reducible refine wp_seq_k ?_); intro _ _)
    | (go_at_K; go_step)
    | (simp only [Exit.then, Exit.inBlock, ↓reduceIte, Nat.reduceEqDiff]))
  have G := rule_any w r p (h.sub F.sub) t ta tc hb; refine Sy.st_callV0 T F (hc := G) (h := ?_); (clear T F G; intro ac w T F)
  repeat (first
    | (((with_reducible refine Sy.is_op ?_); refine Sy.st_pure T (h := ?_); clear T; intro ac T))
    | (with_reducible refine wpList_nil ?_)
    | (with_reducible refine wp_ret ?_)
    | (go_at_K; go_step)
    | (simp only [Exit.then, Exit.inBlock, ↓reduceIte, Nat.reduceEqDiff]))
  ((try simp only [Exit.inBlock, Exit.then]); refine Sy.st_ret1 T F rfl (by repeat (first | exact Sy.ResV.nil | apply Sy.ResV.tmp rfl | apply Sy.ResV.row rfl rfl rfl (by repeat (first | exact Sy.Take.here | apply Sy.Take.there)) (by rfl) | apply Sy.ResV.one rfl rfl rfl (by repeat (first | exact Sy.Take.here | apply Sy.Take.there)) (by rfl))) ?_)
  exact F.retV _
theorem clos_badR {w : World} {l : List RuleD} {t : TabD} {ta : Option Addr} {tc g : Nat} (hg : Sy.At w g 0 (tabCs t ta tc)) : ClosB RuleR w 84 [.pointer (some ⟨g, 0, none⟩)] l (fun r => !ruleS t.states t.vars r) := fun w' m h1 h2 d _ cs hr =>
  may1_any w' d (hr.sub h2) t ta tc g ((hg.sub h1).sub h2) rfl
set_option maxRecDepth 20000 in
set_option maxHeartbeats 1000000 in
theorem may_any (w0 : World) (t : TabD) (ta : Option Addr) (tc : Nat) (h : TabAt w0 t ta tc) {b : Bool} (hb : mayS t = b) : Calls Try.prog 40 #[.agg (tabCs t ta tc).toArray] w0 (RetV w0 (.bool b)) := by
  have F := Sy.Mem.start (Sub.refl w0)
  subst hb
  rcases or5 (decide (t.states < 1)) (decide (t.states > 32)) (decide (t.vars < 0)) (decide (t.vars > 8)) (decide ((t.rules.length : Int) > 32)) with t1 | ⟨t1, t2⟩ | ⟨t1, t2, t3⟩ | ⟨t1, t2, t3, t4⟩ | ⟨t1, t2, t3, t4, t5⟩ | ⟨t1, t2, t3, t4, t5⟩
  case inr.inr.inr.inr.inr =>
    have hfin : mayS t = !t.rules.any fun r => !ruleS t.states t.vars r := by unfold mayS; rw [t1, t2, t3, t4, t5]; rfl
    refine Sy.enter Try.func40 rfl Try.ntmps40 rfl ?_; intro ac T; simp only [Sy.enum, Nat.zero_add, Nat.reduceAdd] at T
    repeat (first
    | (((with_reducible refine Sy.is_guard ?_); (refine Sy.st_guard T (h := ?_))))
    | (((with_reducible refine Sy.is_load ?_); (refine Sy.st_loadOne T F (h := ?_)); clear T; intro ac T))
    | (((with_reducible refine Sy.is_box ?_); (refine Sy.st_boxAgg T F (h := ?_)); clear T F; intro ac g w T F))
    | (((with_reducible refine Sy.is_op ?_); refine Sy.st_pure T (h := ?_); clear T; intro ac T))
    | ((with_reducible refine Sy.is_cond ?_); (refine Sy.st_false T (h := ?_)))
    | (with_reducible refine wpList_nil ?_)
    | (with_reducible refine wp_region_lit ?_)
    | (with_reducible refine wp_skip ?_)
    | ((with_reducible refine wp_seq_k ?_); intro _ _)
    | (go_at_K; go_step)
    | (simp only [Exit.then, Exit.inBlock, ↓reduceIte, Nat.reduceEqDiff]))
    have hgc := Sy.at_own (F.get Sy.Take.here)
    have G := containsRule w (rows_sub (fun _ _ h => h.sub F.sub) F.sub h.rules) rfl (clos_badR hgc) (cap := tc)
    refine Sy.st_callV0 T F (hc := G) (h := ?_); (clear T F; intro ac w T F)
    repeat (first
    | (((with_reducible refine Sy.is_op ?_); refine Sy.st_pure T (h := ?_); clear T; intro ac T))
    | (with_reducible refine wpList_nil ?_)
    | (with_reducible refine wp_ret ?_)
    | (go_at_K; go_step)
    | (simp only [Exit.then, Exit.inBlock, ↓reduceIte, Nat.reduceEqDiff]))
    ((try simp only [Exit.inBlock, Exit.then]); refine Sy.st_ret1 T F rfl (by repeat (first | exact Sy.ResV.nil | apply Sy.ResV.tmp rfl | apply Sy.ResV.row rfl rfl rfl (by repeat (first | exact Sy.Take.here | apply Sy.Take.there)) (by rfl) | apply Sy.ResV.one rfl rfl rfl (by repeat (first | exact Sy.Take.here | apply Sy.Take.there)) (by rfl))) ?_)
    exact retBb F hfin
  all_goals
    refine Sy.enter Try.func40 rfl Try.ntmps40 rfl ?_; intro ac T; simp only [Sy.enum, Nat.zero_add, Nat.reduceAdd] at T
    repeat (first
    | (((with_reducible refine Sy.is_guard ?_); (first
    | refine Sy.st_guard T (h := ?_)
    | (refine Sy.st_unguard T (h := ?_); clear T; intro ac T))))
    | (((with_reducible refine Sy.is_load ?_); (refine Sy.st_loadOne T F (h := ?_)); clear T; intro ac T))
    | (((with_reducible refine Sy.is_box ?_); (refine Sy.st_boxAgg T F (h := ?_)); clear T F; intro ac g w T F))
    | (((with_reducible refine Sy.is_op ?_); refine Sy.st_pure T (h := ?_); clear T; intro ac T))
    | ((with_reducible refine Sy.is_cond ?_); (refine Sy.st_true T (h := ?_)))
    | (with_reducible refine wpList_nil ?_)
    | (with_reducible refine wp_region_lit ?_)
    | (with_reducible refine wp_ret ?_)
    | ((with_reducible refine wp_seq_k ?_); intro _ _)
    | (go_at_K; go_step)
    | (simp only [Exit.then, Exit.inBlock, ↓reduceIte, Nat.reduceEqDiff]))
    ((try simp only [Exit.inBlock, Exit.then]); refine Sy.st_ret1 T F rfl (by repeat (first | exact Sy.ResV.nil | apply Sy.ResV.tmp rfl | apply Sy.ResV.row rfl rfl rfl (by repeat (first | exact Sy.Take.here | apply Sy.Take.there)) (by rfl) | apply Sy.ResV.one rfl rfl rfl (by repeat (first | exact Sy.Take.here | apply Sy.Take.there)) (by rfl))) ?_)
    exact retBb F (by first | (unfold mayS; rw [t1, t2, t3, t4, t5]; rfl) | (unfold mayS; rw [t1, t2, t3, t4]; rfl) | (unfold mayS; rw [t1, t2, t3]; rfl) | (unfold mayS; rw [t1, t2]; rfl) | (unfold mayS; rw [t1]; rfl))
theorem mayM {w m : World} (hs : Sub m w) {t : TabD} {ta : Option Addr} {tc : Nat} (h : TabAt m t ta tc) {b : Bool} (hb : mayS t = b) : Calls Try.prog 40 #[.agg (tabCs t ta tc).toArray] w (RetV w (.bool b)) := may_any w t ta tc (h.sub hs) hb
end Tb
end Go.Proofs.Ytniopkoaplkpkaa
