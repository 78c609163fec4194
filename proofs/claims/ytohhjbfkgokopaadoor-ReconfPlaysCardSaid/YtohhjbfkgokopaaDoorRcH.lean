/- The walks of the laws' great, awake, steps, and of the law ReconfPlays; what an act leaves. Conditions: the tables of math/bits stand in memory; what is handed in can be read. -/
import Derived.Test.YtohhjbfkgokopaaDoorRcG
namespace Go.Proofs.YtohhjbfkgokopaaDoor
open Go.RowKit
set_option linter.unusedVariables false
set_option linter.unusedSimpArgs false
namespace Rc
open Sy (RetV RetM Sub)
open Rg (eqT eqF i64_wrap i64_up retBb not_t not_f)
def actS (x : MoveD) (a : ActD) : MoveD := if a.kind = 0 then adoptS x a.node a.set else if a.kind = 1 then heardS x a.node a.keys a.f a.set else toldS x a.err
/-- what is kept of a move -/
def Inv (x : MoveD) : Prop := x.phase = 0 ∨ (mayC x.conf = true ∧ x.phase ≤ 4 ∧ (x.phase ≤ 3 → x.conf.c % 2 = 1))
def Up (x z : MoveD) : Prop := x.phase ≠ 0 → z.phase ≠ 0 → x.phase ≤ z.phase ∧ x.conf.c ≤ z.conf.c ∧ mayC z.conf = true
theorem step_odd {c c' : ConfD} {n : Nat} (ho : c.c % 2 = 1) (h : stepS c n = (c', 0)) : mayC c = true ∧ c'.c = c.c + 1 ∧ c'.new = c.new ∧ mayC c' = true := by
  cases hm : mayC c
  · rw [stepS_bad (.inl hm)] at h; cases h
  have hg : ¬ (c.c % 2 = 0 ∧ 64 ≤ n) := by omega
  obtain ⟨hr, hl⟩ := mayC_t hm
  have hn : newS c n = c.new := by unfold newS; rw [if_pos ho]
  have hne : newS c n ≠ [] := by rw [hn]; exact fun e => hl (by rw [e]; rfl)
  by_cases hf : 9223372036854775808 ≤ c.c
  · rw [stepS_full hm hg hne hf] at h; cases h
  rw [stepS_ok hm hg hne hf, if_pos ho, hn] at h
  simp only [Prod.mk.injEq, and_true] at h
  subst h
  refine ⟨rfl, rfl, rfl, ?_⟩
  rw [mayC_even (c := ⟨c.c + 1, [], c.new⟩) hr hl (show ¬ (c.c + 1) % 2 = 1 by omega)]
  rfl
theorem tog_pop {l : List Nat} {n : Nat} (hr : rise l = true) (hn : n < 64) : pop (setN l ^^^ setN (togL l n)) = 1 := by
  rw [others_pop hr (tog_rise l n), ← others_range _ hr, ← others_range _ (tog_rise l n), ← countP_xor]
  have h1 := ((rise_iff l).1 hr).1
  have e : (List.range 64).countP (fun i => decide (i ∈ l) != decide (i ∈ togL l n)) = (List.range 64).countP (fun i => decide (i = n)) := by
    refine List.countP_congr fun i hi => ?_
    have hi' := List.mem_range.1 hi
    have hm := mem_tog l n i
    by_cases ha : i ∈ l <;> by_cases hb : i = n <;> simp_all
  rw [e]
  rw [List.countP_eq_length_filter]
  have e2 : (List.range 64).filter (fun i => decide (i = n)) = [n] := by
    refine sorted_ext ((range_sorted 64).filter _) (List.pairwise_singleton _ _) fun i => ?_
    simp only [List.mem_filter, List.mem_range, decide_eq_true_eq, List.mem_singleton]
    exact ⟨fun h => h.2, fun h => ⟨by omega, h⟩⟩
  rw [e2]
  rfl
theorem step_even {c c' : ConfD} {n : Nat} (ho : ¬ c.c % 2 = 1) (h : stepS c n = (c', 0)) : c'.c = c.c + 1 ∧ c'.c % 2 = 1 ∧ mayC c' = true := by
  cases hm : mayC c
  · rw [stepS_bad (.inl hm)] at h; cases h
  obtain ⟨hr, hl⟩ := mayC_t hm
  by_cases hn : 64 ≤ n
  · rw [stepS_bad (.inr ⟨by omega, hn⟩)] at h; cases h
  have hg : ¬ (c.c % 2 = 0 ∧ 64 ≤ n) := by omega
  have hnw : newS c n = togL c.new n := by unfold newS; rw [if_neg ho]
  by_cases hne : newS c n = []
  · rw [stepS_nil hm hg hne] at h; cases h
  by_cases hf : 9223372036854775808 ≤ c.c
  · rw [stepS_full hm hg hne hf] at h; cases h
  rw [stepS_ok hm hg hne hf, if_neg ho, hnw] at h
  simp only [Prod.mk.injEq, and_true] at h
  subst h
  refine ⟨rfl, show (c.c + 1) % 2 = 1 by omega, ?_⟩
  rw [mayC_odd (c := ⟨c.c + 1, c.new, togL c.new n⟩) (tog_rise _ _) (show (togL c.new n).length ≠ 0 from fun e => hne (by rw [hnw]; exact List.eq_nil_of_length_eq_zero e)) (show (c.c + 1) % 2 = 1 by omega)]
  simp only [hr, tog_pop hr (by omega : n < 64)]
  simp
  omega
theorem stable_inv {x : MoveD} (ho : x.conf.c % 2 = 1) : Inv (stableS x) ∧ ((stableS x).phase ≠ 0 → (stableS x).phase = 4 ∧ (stableS x).conf.c = x.conf.c + 1 ∧ (stableS x).conf.new = x.conf.new ∧ mayC (stableS x).conf = true) := by
  by_cases hz : (stepS x.conf 0).2 = 0
  · obtain ⟨h1, h2, h3, h4⟩ := step_odd (c' := (stepS x.conf 0).1) ho (Prod.ext rfl hz : stepS x.conf 0 = ((stepS x.conf 0).1, 0))
    rw [stable_ok hz]
    exact ⟨.inr ⟨h4, by simp, by simp⟩, fun _ => ⟨rfl, h2, h3, h4⟩⟩
  · rw [stable_bad hz]
    exact ⟨.inl rfl, fun h => (h rfl).elim⟩
theorem act_inv {x : MoveD} (h : Inv x) (a : ActD) : Inv (actS x a) ∧ Up x (actS x a) := by
  have same : Inv x ∧ Up x x := by
    refine ⟨h, fun h0 _ => ?_⟩
    rcases h with h | ⟨h1, h2, h3⟩
    · exact (h0 h).elim
    · exact ⟨Nat.le_refl _, Nat.le_refl _, h1⟩
  have alike : ∀ y : MoveD, y.phase = x.phase → y.conf = x.conf → Inv y ∧ Up x y := fun y e1 e2 => by
    unfold Inv Up
    rw [e1, e2]
    exact same
  unfold actS
  split
  · unfold adoptS
    split
    · exact same
    rename_i hc
    split
    · exact alike _ rfl rfl
    split
    · exact ⟨.inl rfl, fun _ h => (h rfl).elim⟩
    · rename_i h4
      rcases h with h | ⟨h1, h2, h3⟩
      · omega
      · have hp : x.phase = 1 := by omega
        exact ⟨.inr ⟨h1, by simp, fun _ => h3 (by omega)⟩, fun _ _ => ⟨by simp; omega, Nat.le_refl _, h1⟩⟩
  split
  · unfold heardS
    split
    · exact same
    rename_i hc
    have hp : x.phase = 2 := by omega
    rcases h with h | ⟨h1, h2, h3⟩
    · omega
    split
    · exact alike _ rfl rfl
    split
    · have := stable_inv (x := { x with nodes := x.nodes ||| 2 ^ a.node, keys := x.keys ||| a.keys, fence := max x.fence a.f }) (h3 (by omega))
      refine ⟨this.1, fun _ hz => ?_⟩
      obtain ⟨k1, k2, k3, k4⟩ := this.2 hz
      exact ⟨by omega, by rw [k2]; simp, k4⟩
    · exact ⟨.inr ⟨h1, by simp, fun _ => h3 (by omega)⟩, fun _ _ => ⟨by simp; omega, Nat.le_refl _, h1⟩⟩
  · unfold toldS
    split
    · exact same
    rename_i hc
    have hw : (wantsS x).2 = true := by cases hw : (wantsS x).2 <;> simp_all
    have hp : x.phase = 3 := by
      unfold wantsS at hw
      split at hw
      · rename_i hh; exact hh.1
      · cases hw
    rcases h with h | ⟨h1, h2, h3⟩
    · omega
    split
    · have := stable_inv (x := { x with keys := dif x.keys (2 ^ low 16 x.keys) }) (h3 (by omega))
      refine ⟨this.1, fun _ hz => ?_⟩
      obtain ⟨k1, k2, k3, k4⟩ := this.2 hz
      exact ⟨by omega, by rw [k2]; simp, k4⟩
    · exact alike _ rfl rfl
theorem begin_inv (c : ConfD) (node : Nat) : Inv (beginS c node).1 := by
  unfold beginS
  split
  · exact .inl rfl
  rename_i ho
  split
  · exact .inl rfl
  rename_i hz
  obtain ⟨h1, h2, h3⟩ := step_even (c' := (stepS c node).1) (n := node) ho (Prod.ext rfl (Decidable.not_not.1 hz) : stepS c node = ((stepS c node).1, 0))
  exact .inr ⟨h3, by simp, fun _ => h2⟩

/-! the walks -/
def greatC (c : ConfD) : Bool := decide (80 < c.old.length) || decide (80 < c.new.length)
set_option maxRecDepth 20000 in
theorem great_any (w0 : World) (c : ConfD) (p : ConfA) : Calls Tryd.prog 5 #[.agg (confCs c p).toArray] w0 (RetV w0 (.bool (greatC c))) := by
  have F := Sy.Mem.start (Sub.refl w0)
  have e2 : decide ((c.new.length : Int) > 80) = decide (80 < c.new.length) := by simp; omega
  by_cases h : 80 < c.old.length
  · have v1 : decide ((c.old.length : Int) > 80) = true := decide_eq_true (by omega)
    refine Sy.enter Tryd.func5 rfl Tryd.ntmps5 rfl ?_; intro ac T; simp only [Sy.enum, Nat.zero_add, Nat.reduceAdd] at T
    repeat (first
    | (((with_reducible refine Sy.is_guard ?_); (first | refine Sy.st_guard T (h := ?_) | (refine Sy.st_unguard T (h := ?_); clear T; intro ac T))))
    | (((with_reducible refine Sy.is_load ?_); (first | refine Sy.st_loadOne T F (h := ?_) | refine Sy.st_oldOne T F (h := ?_) | refine Sy.st_loadAll T F (h := ?_) | (refine Sy.st_loadCut T F (h := ?_); conv => whnf) | refine Sy.st_oldAgg T F (h := ?_) | (refine Sy.st_oldCut T F (h := ?_); conv => whnf)); clear T; intro ac T))
    | (((with_reducible refine Sy.is_box ?_); (first | refine Sy.st_boxAgg T F (h := ?_) | refine Sy.st_boxOne T F (h := ?_)); clear T F; intro ac g w T F))
    | (((with_reducible refine Sy.is_op ?_); refine Sy.st_pure T (h := ?_); clear T; intro ac T))
    | ((with_reducible refine Sy.atK (hK _ _ ?_)))
    | ((with_reducible refine Sy.is_cond ?_); (first | refine Sy.st_true T (h := ?_) | refine Sy.st_false T (h := ?_)))
    | (with_reducible refine wpList_nil ?_)
    | (with_reducible refine wp_region_lit ?_)
    | (with_reducible refine wp_block ?_)
    | (with_reducible refine wp_skip ?_)
    | (with_reducible refine wp_exit ?_)
    | (with_reducible refine wp_ret ?_)
    | ((with_reducible refine wp_seq_k ?_); intro _ _)
    | (go_at_K; go_step)
    | (simp only [Exit.then, Exit.inBlock, ↓reduceIte, Nat.reduceEqDiff]))
    ((try simp only [Exit.inBlock, Exit.then]); refine Sy.st_ret1 T F rfl (by repeat (first | exact Sy.ResV.nil | apply Sy.ResV.tmp rfl | apply Sy.ResV.row rfl rfl rfl (by repeat (first | exact Sy.Take.here | apply Sy.Take.there)) (by rfl) | apply Sy.ResV.one rfl rfl rfl (by repeat (first | exact Sy.Take.here | apply Sy.Take.there)) (by rfl))) ?_)
    exact retBb F (by unfold greatC; rw [decide_eq_true h]; rfl)
  · have v1 : decide ((c.old.length : Int) > 80) = false := decide_eq_false (by omega)
    refine Sy.enter Tryd.func5 rfl Tryd.ntmps5 rfl ?_; intro ac T; simp only [Sy.enum, Nat.zero_add, Nat.reduceAdd] at T
    repeat (first
    | (((with_reducible refine Sy.is_guard ?_); (first | refine Sy.st_guard T (h := ?_) | (refine Sy.st_unguard T (h := ?_); clear T; intro ac T))))
    | (((with_reducible refine Sy.is_load ?_); (first | refine Sy.st_loadOne T F (h := ?_) | refine Sy.st_oldOne T F (h := ?_) | refine Sy.st_loadAll T F (h := ?_) | (refine Sy.st_loadCut T F (h := ?_); conv => whnf) | refine Sy.st_oldAgg T F (h := ?_) | (refine Sy.st_oldCut T F (h := ?_); conv => whnf)); clear T; intro ac T))
    | (((with_reducible refine Sy.is_box ?_); (first | refine Sy.st_boxAgg T F (h := ?_) | refine Sy.st_boxOne T F (h := ?_)); clear T F; intro ac g w T F))
    | (((with_reducible refine Sy.is_op ?_); refine Sy.st_pure T (h := ?_); clear T; intro ac T))
    | ((with_reducible refine Sy.atK (hK _ _ ?_)))
    | ((with_reducible refine Sy.is_cond ?_); (first | refine Sy.st_true T (h := ?_) | refine Sy.st_false T (h := ?_)))
    | (with_reducible refine wpList_nil ?_)
    | (with_reducible refine wp_region_lit ?_)
    | (with_reducible refine wp_block ?_)
    | (with_reducible refine wp_skip ?_)
    | (with_reducible refine wp_exit ?_)
    | (with_reducible refine wp_ret ?_)
    | ((with_reducible refine wp_seq_k ?_); intro _ _)
    | (go_at_K; go_step)
    | (simp only [Exit.then, Exit.inBlock, ↓reduceIte, Nat.reduceEqDiff]))
    ((try simp only [Exit.inBlock, Exit.then]); refine Sy.st_ret1 T F rfl (by repeat (first | exact Sy.ResV.nil | apply Sy.ResV.tmp rfl | apply Sy.ResV.row rfl rfl rfl (by repeat (first | exact Sy.Take.here | apply Sy.Take.there)) (by rfl) | apply Sy.ResV.one rfl rfl rfl (by repeat (first | exact Sy.Take.here | apply Sy.Take.there)) (by rfl))) ?_)
    exact retBb F (by unfold greatC; rw [decide_eq_false h]; rfl)
def exC : ConfD := ⟨0, [], [1]⟩
theorem ex_begin : beginS exC 2 = (⟨1, ⟨1, [1], [1, 2]⟩, 0, 0, 0⟩, 0) := by decide +kernel
theorem ex_adopt : adoptS ⟨1, ⟨1, [1], [1, 2]⟩, 0, 0, 0⟩ 1 2 = ⟨2, ⟨1, [1], [1, 2]⟩, 0, 0, 0⟩ := by decide +kernel
theorem ex_heard : heardS ⟨2, ⟨1, [1], [1, 2]⟩, 0, 0, 0⟩ 1 0 7 2 = ⟨4, ⟨2, [], [1, 2]⟩, 0, 0, 7⟩ := by decide +kernel
set_option maxRecDepth 20000 in
theorem awake_any (w0 : World) : Calls Tryd.prog 6 #[] w0 (RetV w0 (.bool true)) := by
  have F := Sy.Mem.start (Sub.refl w0)
  refine Sy.enter Tryd.func6 rfl Tryd.ntmps6 rfl ?_; intro ac T; simp only [Sy.enum, Nat.zero_add, Nat.reduceAdd] at T
  repeat (first
    | (((with_reducible refine Sy.is_guard ?_); (first | refine Sy.st_guard T (h := ?_) | (refine Sy.st_unguard T (h := ?_); clear T; intro ac T))))
    | (((with_reducible refine Sy.is_load ?_); (first | refine Sy.st_loadOne T F (h := ?_) | refine Sy.st_oldOne T F (h := ?_) | refine Sy.st_loadAll T F (h := ?_) | (refine Sy.st_loadCut T F (h := ?_); conv => whnf) | refine Sy.st_oldAgg T F (h := ?_) | (refine Sy.st_oldCut T F (h := ?_); conv => whnf)); clear T; intro ac T))
    | (((with_reducible refine Sy.is_store ?_); (first | refine Sy.st_storeAll T F (h := ?_) | (refine Sy.st_storeOne T F (h := ?_); conv => whnf) | (refine Sy.st_storeAgg T F (h := ?_); conv => whnf)); clear T F; intro ac w T F))
    | (((with_reducible refine Sy.is_alloc ?_); refine Sy.st_alloc T F (h := ?_); clear T F; intro ac g w T F))
    | (((with_reducible refine Sy.is_build ?_); refine Sy.st_build T (h := ?_); (conv => whnf); (repeat (refine ⟨by first | exact rfl | exact ⟨rfl, rfl⟩, ?_⟩; (conv => whnf))); clear T; intro ac T))
    | (((with_reducible refine Sy.is_buildSlice ?_); refine Sy.st_buildSlice T F (h := ?_); (conv => whnf); (repeat (refine ⟨by first | exact rfl | exact ⟨rfl, rfl⟩, ?_⟩; (conv => whnf))); clear T F; intro ac g w T F))
    | (((with_reducible refine Sy.is_op ?_); refine Sy.st_pure T (h := ?_); clear T; intro ac T))
    | ((with_reducible refine Sy.atK (hK _ _ ?_)))
    | ((with_reducible refine Sy.is_cond ?_); (first | refine Sy.st_true T (h := ?_) | refine Sy.st_false T (h := ?_)))
    | (with_reducible refine wpList_nil ?_)
    | (with_reducible refine wp_region_lit ?_)
    | (with_reducible refine wp_block ?_)
    | (with_reducible refine wp_skip ?_)
    | (with_reducible refine wp_exit ?_)
    | (with_reducible refine wp_ret ?_)
    | ((with_reducible refine wp_seq_k ?_); intro _ _)
    | (go_at_K; go_step)
    | (simp only [Exit.then, Exit.inBlock, ↓reduceIte, Nat.reduceEqDiff]))
  replace F := F.takeSl Sy.Take.here (n := 1) (size := 1) rfl (by decide)
  obtain ⟨m1, hs1, F, hc1⟩ := F.freeze
  have hx : ConfAt m1 exC ⟨none, 0, some ⟨g, 0, none⟩, 1⟩ := ⟨by decide, Rows.nil _ _ _ _, nod_of (hc1 _ _ rfl) (by decide) (by intro x hx; simp [exC] at hx; omega)⟩
  have G := begin_any F.sub hx 2 (by decide)
  rw [ex_begin] at G
  refine Sy.st_callM0 T F (hc := G) (h := ?_); (clear T F; intro v m ac w hR hS T F)
  obtain ⟨q, rfl, hq⟩ := hR
  repeat (first
    | (((with_reducible refine Sy.is_guard ?_); (first | refine Sy.st_guard T (h := ?_) | (refine Sy.st_unguard T (h := ?_); clear T; intro ac T))))
    | (((with_reducible refine Sy.is_load ?_); (first | refine Sy.st_loadOne T F (h := ?_) | refine Sy.st_oldOne T F (h := ?_) | refine Sy.st_loadAll T F (h := ?_) | (refine Sy.st_loadCut T F (h := ?_); conv => whnf) | refine Sy.st_oldAgg T F (h := ?_) | (refine Sy.st_oldCut T F (h := ?_); conv => whnf)); clear T; intro ac T))
    | (((with_reducible refine Sy.is_store ?_); (first | refine Sy.st_storeAll T F (h := ?_) | (refine Sy.st_storeOne T F (h := ?_); conv => whnf) | (refine Sy.st_storeAgg T F (h := ?_); conv => whnf)); clear T F; intro ac w T F))
    | (((with_reducible refine Sy.is_alloc ?_); refine Sy.st_alloc T F (h := ?_); clear T F; intro ac g w T F))
    | (((with_reducible refine Sy.is_build ?_); refine Sy.st_build T (h := ?_); (conv => whnf); (repeat (refine ⟨by first | exact rfl | exact ⟨rfl, rfl⟩, ?_⟩; (conv => whnf))); clear T; intro ac T))
    | (((with_reducible refine Sy.is_buildSlice ?_); refine Sy.st_buildSlice T F (h := ?_); (conv => whnf); (repeat (refine ⟨by first | exact rfl | exact ⟨rfl, rfl⟩, ?_⟩; (conv => whnf))); clear T F; intro ac g w T F))
    | (((with_reducible refine Sy.is_op ?_); refine Sy.st_pure T (h := ?_); clear T; intro ac T))
    | ((with_reducible refine Sy.atK (hK _ _ ?_)))
    | ((with_reducible refine Sy.is_cond ?_); (first | refine Sy.st_true T (h := ?_) | refine Sy.st_false T (h := ?_)))
    | (with_reducible refine wpList_nil ?_)
    | (with_reducible refine wp_region_lit ?_)
    | (with_reducible refine wp_block ?_)
    | (with_reducible refine wp_skip ?_)
    | (with_reducible refine wp_exit ?_)
    | (with_reducible refine wp_ret ?_)
    | ((with_reducible refine wp_seq_k ?_); intro _ _)
    | (go_at_K; go_step)
    | (simp only [Exit.then, Exit.inBlock, ↓reduceIte, Nat.reduceEqDiff]))
  have G := adopt_any F.sub hq 1 (by decide) 2 (by decide)
  rw [ex_adopt] at G
  refine Sy.st_callM0 T F (hc := G) (h := ?_); (clear T F; intro v m ac w hR hS T F)
  obtain ⟨q2, rfl, hq2⟩ := hR
  repeat (first
    | (((with_reducible refine Sy.is_guard ?_); (first | refine Sy.st_guard T (h := ?_) | (refine Sy.st_unguard T (h := ?_); clear T; intro ac T))))
    | (((with_reducible refine Sy.is_load ?_); (first | refine Sy.st_loadOne T F (h := ?_) | refine Sy.st_oldOne T F (h := ?_) | refine Sy.st_loadAll T F (h := ?_) | (refine Sy.st_loadCut T F (h := ?_); conv => whnf) | refine Sy.st_oldAgg T F (h := ?_) | (refine Sy.st_oldCut T F (h := ?_); conv => whnf)); clear T; intro ac T))
    | (((with_reducible refine Sy.is_store ?_); (first | refine Sy.st_storeAll T F (h := ?_) | (refine Sy.st_storeOne T F (h := ?_); conv => whnf) | (refine Sy.st_storeAgg T F (h := ?_); conv => whnf)); clear T F; intro ac w T F))
    | (((with_reducible refine Sy.is_alloc ?_); refine Sy.st_alloc T F (h := ?_); clear T F; intro ac g w T F))
    | (((with_reducible refine Sy.is_build ?_); refine Sy.st_build T (h := ?_); (conv => whnf); (repeat (refine ⟨by first | exact rfl | exact ⟨rfl, rfl⟩, ?_⟩; (conv => whnf))); clear T; intro ac T))
    | (((with_reducible refine Sy.is_buildSlice ?_); refine Sy.st_buildSlice T F (h := ?_); (conv => whnf); (repeat (refine ⟨by first | exact rfl | exact ⟨rfl, rfl⟩, ?_⟩; (conv => whnf))); clear T F; intro ac g w T F))
    | (((with_reducible refine Sy.is_op ?_); refine Sy.st_pure T (h := ?_); clear T; intro ac T))
    | ((with_reducible refine Sy.atK (hK _ _ ?_)))
    | ((with_reducible refine Sy.is_cond ?_); (first | refine Sy.st_true T (h := ?_) | refine Sy.st_false T (h := ?_)))
    | (with_reducible refine wpList_nil ?_)
    | (with_reducible refine wp_region_lit ?_)
    | (with_reducible refine wp_block ?_)
    | (with_reducible refine wp_skip ?_)
    | (with_reducible refine wp_exit ?_)
    | (with_reducible refine wp_ret ?_)
    | ((with_reducible refine wp_seq_k ?_); intro _ _)
    | (go_at_K; go_step)
    | (simp only [Exit.then, Exit.inBlock, ↓reduceIte, Nat.reduceEqDiff]))
  have G := heard_any F.sub hq2 1 (by decide) 0 (by decide) 7 (by decide) 2 (by decide)
  rw [ex_heard] at G
  refine Sy.st_callM0 T F (hc := G) (h := ?_); (clear T F; intro v m ac w hR hS T F)
  obtain ⟨q3, rfl, hq3⟩ := hR
  repeat (first
    | (((with_reducible refine Sy.is_guard ?_); (first | refine Sy.st_guard T (h := ?_) | (refine Sy.st_unguard T (h := ?_); clear T; intro ac T))))
    | (((with_reducible refine Sy.is_load ?_); (first | refine Sy.st_loadOne T F (h := ?_) | refine Sy.st_oldOne T F (h := ?_) | refine Sy.st_loadAll T F (h := ?_) | (refine Sy.st_loadCut T F (h := ?_); conv => whnf) | refine Sy.st_oldAgg T F (h := ?_) | (refine Sy.st_oldCut T F (h := ?_); conv => whnf)); clear T; intro ac T))
    | (((with_reducible refine Sy.is_store ?_); (first | refine Sy.st_storeAll T F (h := ?_) | (refine Sy.st_storeOne T F (h := ?_); conv => whnf) | (refine Sy.st_storeAgg T F (h := ?_); conv => whnf)); clear T F; intro ac w T F))
    | (((with_reducible refine Sy.is_alloc ?_); refine Sy.st_alloc T F (h := ?_); clear T F; intro ac g w T F))
    | (((with_reducible refine Sy.is_build ?_); refine Sy.st_build T (h := ?_); (conv => whnf); (repeat (refine ⟨by first | exact rfl | exact ⟨rfl, rfl⟩, ?_⟩; (conv => whnf))); clear T; intro ac T))
    | (((with_reducible refine Sy.is_buildSlice ?_); refine Sy.st_buildSlice T F (h := ?_); (conv => whnf); (repeat (refine ⟨by first | exact rfl | exact ⟨rfl, rfl⟩, ?_⟩; (conv => whnf))); clear T F; intro ac g w T F))
    | (((with_reducible refine Sy.is_op ?_); refine Sy.st_pure T (h := ?_); clear T; intro ac T))
    | ((with_reducible refine Sy.atK (hK _ _ ?_)))
    | ((with_reducible refine Sy.is_cond ?_); (first | refine Sy.st_true T (h := ?_) | refine Sy.st_false T (h := ?_)))
    | (with_reducible refine wpList_nil ?_)
    | (with_reducible refine wp_region_lit ?_)
    | (with_reducible refine wp_block ?_)
    | (with_reducible refine wp_skip ?_)
    | (with_reducible refine wp_exit ?_)
    | (with_reducible refine wp_ret ?_)
    | ((with_reducible refine wp_seq_k ?_); intro _ _)
    | (go_at_K; go_step)
    | (simp only [Exit.then, Exit.inBlock, ↓reduceIte, Nat.reduceEqDiff]))
  ((try simp only [Exit.inBlock, Exit.then]); refine Sy.st_ret1 T F rfl (by repeat (first | exact Sy.ResV.nil | apply Sy.ResV.tmp rfl | apply Sy.ResV.row rfl rfl rfl (by repeat (first | exact Sy.Take.here | apply Sy.Take.there)) (by rfl) | apply Sy.ResV.one rfl rfl rfl (by repeat (first | exact Sy.Take.here | apply Sy.Take.there)) (by rfl))) ?_)
  exact F.retV _
theorem opEq (x : MoveD) : Sy.EqAgg Tryd.prog .eql 48 (opL x) (opL x) true ∧ Sy.EqAgg Tryd.prog .neq 48 (opL x) (opL x) false := by
  refine Sy.eqAgg_refl Tryd.underlying48 (by kernel_rfl) ?_
  intro f hf
  simp at hf
  rcases hf with rfl | rfl | rfl | rfl | rfl | rfl | rfl | rfl | rfl | rfl <;> exact ⟨_, _, rfl⟩
set_option maxRecDepth 20000 in
set_option maxHeartbeats 2000000 in
theorem steps_any {w m : World} (hs : Sub m w) (hT : Tabs m) {x : MoveD} {p : ConfA} (h : MoveAt m x p) {a : ActD} (ha : ActR m (actCs a) a) :
    Calls Tryd.prog 10 #[.agg (moveCs x p).toArray, .agg (actCs a).toArray] w (RetM m w (fun m' v => ∃ q, v = .tuple #[.agg (moveCs (actS x a) q).toArray, .bool true] ∧ MoveAt m' (actS x a) q)) := by
  have F := Sy.Mem.start hs
  obtain ⟨_, hn, hkeys, hf, hset⟩ := ha
  have hB := Tryd.underlying4
  have q1 := eqT (a := ((nextS x a.set).1 : Int)) (b := ((nextS x a.set).1 : Int)) rfl
  have q2 : ((nextS x a.set).2 == (nextS x a.set).2) = true := beq_self_eq_true _
  have q3 := (opEq x).2
  have q4 : ((wantsS x).2 == (wantsS x).2) = true := beq_self_eq_true _
  refine Sy.enter Tryd.func10 rfl Tryd.ntmps10 rfl ?_; intro ac T; simp only [Sy.enum, Nat.zero_add, Nat.reduceAdd] at T
  repeat (first
    | (((with_reducible refine Sy.is_guard ?_); (first | refine Sy.st_guard T (h := ?_) | (refine Sy.st_unguard T (h := ?_); clear T; intro ac T))))
    | (((with_reducible refine Sy.is_load ?_); (first | refine Sy.st_loadOne T F (h := ?_) | refine Sy.st_oldOne T F (h := ?_) | refine Sy.st_loadAll T F (h := ?_) | (refine Sy.st_loadCut T F (h := ?_); conv => whnf) | refine Sy.st_oldAgg T F (h := ?_) | (refine Sy.st_oldCut T F (h := ?_); conv => whnf)); clear T; intro ac T))
    | (((with_reducible refine Sy.is_store ?_); (first | refine Sy.st_storeAll T F (h := ?_) | (refine Sy.st_storeOne T F (h := ?_); conv => whnf) | (refine Sy.st_storeAgg T F (h := ?_); conv => whnf)); clear T F; intro ac w T F))
    | (((with_reducible refine Sy.is_box ?_); (first | refine Sy.st_boxAgg T F (h := ?_) | refine Sy.st_boxOne T F (h := ?_)); clear T F; intro ac g w T F))
    | (((with_reducible refine Sy.is_alloc ?_); refine Sy.st_alloc T F (h := ?_); clear T F; intro ac g w T F))
    | (((with_reducible refine Sy.is_build ?_); refine Sy.st_build T (h := ?_); (conv => whnf); (repeat (refine ⟨by first | exact rfl | exact ⟨rfl, rfl⟩, ?_⟩; (conv => whnf))); clear T; intro ac T))
    | (((with_reducible refine Sy.is_op ?_); refine Sy.st_pure T (h := ?_); clear T; intro ac T))
    | ((with_reducible refine Sy.atK (hK _ _ ?_)))
    | ((with_reducible refine Sy.is_cond ?_); (first | refine Sy.st_true T (h := ?_) | refine Sy.st_false T (h := ?_)))
    | (with_reducible refine wpList_nil ?_)
    | (with_reducible refine wp_region_lit ?_)
    | (with_reducible refine wp_block ?_)
    | (with_reducible refine wp_skip ?_)
    | (with_reducible refine wp_exit ?_)
    | (with_reducible refine wp_ret ?_)
    | ((with_reducible refine wp_seq_k ?_); intro _ _)
    | (go_at_K; go_step)
    | (simp only [Exit.then, Exit.inBlock, ↓reduceIte, Nat.reduceEqDiff])
    | ((with_reducible refine Sy.is_drawn (id := 10) ?_); refine Sy.sx_regionW T F 4 rfl (.t 0 (.t 1 (.t 2 (.t 3 (.t 4 (.t 5 (.t 6 (.h 7 (.h 8 (.h 9 (.t 10 .e))))))))))) [] (by kernel_rfl) ?_; (clear F; intro w F); dsimp only)
    | ((with_reducible refine Sy.is_drawn (id := 13) ?_); refine Sy.sx_regionW T F 4 rfl (.t 0 (.t 1 (.t 2 (.t 3 (.t 4 (.t 5 (.t 6 (.t 7 (.t 8 (.t 9 (.t 10 (.h 11 (.h 12 (.h 13 (.t 14 .e))))))))))))))) [] (by kernel_rfl) ?_; (clear F; intro w F); dsimp only)
    | ((with_reducible refine Sy.is_drawn (id := 15) ?_); refine Sy.sx_regionW T F 4 rfl (.t 0 (.t 1 (.t 2 (.t 3 (.t 4 (.t 5 (.t 6 (.h 7 (.h 8 (.h 9 (.t 10 .e))))))))))) [] (by kernel_rfl) ?_; (clear F; intro w F); dsimp only)
    | ((first | refine Sy.sx_plain (h := ?_) | refine Sy.sx_guard (T := T) (h := ?_)); (first | ((with_reducible refine Sy.ux_load ?_); (first | refine Sy.sx_val (Sy.rx_loadOne T F) T rfl ?_ | refine Sy.sx_val (Sy.rx_oldOne T F) T rfl ?_ | refine Sy.sx_val (Sy.rx_loadAll T F) T rfl ?_ | (refine Sy.sx_loadCut T F (h := ?_); conv => whnf) | refine Sy.sx_val (Sy.rx_oldAgg T F) T rfl ?_ | (refine Sy.sx_oldCut T F (h := ?_); conv => whnf)); clear T; intro ac T) | ((with_reducible refine Sy.ux_build ?_); refine Sy.sx_build T (h := ?_); (conv => whnf); (repeat (refine ⟨by first | exact rfl | exact ⟨rfl, rfl⟩, ?_⟩; (conv => whnf))); clear T; intro ac T) | (refine Sy.sx_pure T (h := ?_); clear T; intro ac T)); show Sy.wpUx _ _ _ _ _ _ _ _ _)
    | ((first | refine Sy.sx_unguard (T := T) (h := ?_) | refine Sy.sx_unguardH (T := T) (h := ?_)); clear T; intro ac T)
    | (with_reducible refine Sy.sx_fork ?_ ?_)
    | (with_reducible refine Sy.sx_nil ?_)
    | (with_reducible refine Sy.sx_end ?_)
    | (with_reducible refine Sy.sx_tail rfl rfl (fun K hK => ?_))
    | ((first | refine Sy.sx_new (T := T) (F := F) (hr := Sy.new_boxAgg T rfl) (h := ?_) | refine Sy.sx_new (T := T) (F := F) (hr := Sy.new_boxOne T rfl rfl) (h := ?_) | refine Sy.sx_new (T := T) (F := F) (hr := Sy.new_alloc rfl) (h := ?_)); clear T F; intro ac g w T F)
    | ((first | refine Sy.sx_storeAll (T := T) (F := F) (h := ?_) | (refine Sy.sx_storeOne (T := T) (F := F) (h := ?_); conv => whnf) | (refine Sy.sx_storeAgg (T := T) (F := F) (h := ?_); conv => whnf)); clear T F; intro ac w T F))
  have G := next_any F.sub hT h a.set hset
  unfold nextV at G
  refine Sy.st_callV0 T F (hc := G) (h := ?_); (clear T F; intro ac w T F)
  repeat (first
    | (((with_reducible refine Sy.is_guard ?_); (first | refine Sy.st_guard T (h := ?_) | (refine Sy.st_unguard T (h := ?_); clear T; intro ac T))))
    | (((with_reducible refine Sy.is_load ?_); (first | refine Sy.st_loadOne T F (h := ?_) | refine Sy.st_oldOne T F (h := ?_) | refine Sy.st_loadAll T F (h := ?_) | (refine Sy.st_loadCut T F (h := ?_); conv => whnf) | refine Sy.st_oldAgg T F (h := ?_) | (refine Sy.st_oldCut T F (h := ?_); conv => whnf)); clear T; intro ac T))
    | (((with_reducible refine Sy.is_store ?_); (first | refine Sy.st_storeAll T F (h := ?_) | (refine Sy.st_storeOne T F (h := ?_); conv => whnf) | (refine Sy.st_storeAgg T F (h := ?_); conv => whnf)); clear T F; intro ac w T F))
    | (((with_reducible refine Sy.is_box ?_); (first | refine Sy.st_boxAgg T F (h := ?_) | refine Sy.st_boxOne T F (h := ?_)); clear T F; intro ac g w T F))
    | (((with_reducible refine Sy.is_alloc ?_); refine Sy.st_alloc T F (h := ?_); clear T F; intro ac g w T F))
    | (((with_reducible refine Sy.is_build ?_); refine Sy.st_build T (h := ?_); (conv => whnf); (repeat (refine ⟨by first | exact rfl | exact ⟨rfl, rfl⟩, ?_⟩; (conv => whnf))); clear T; intro ac T))
    | (((with_reducible refine Sy.is_op ?_); refine Sy.st_pure T (h := ?_); clear T; intro ac T))
    | ((with_reducible refine Sy.atK (hK _ _ ?_)))
    | ((with_reducible refine Sy.is_cond ?_); (first | refine Sy.st_true T (h := ?_) | refine Sy.st_false T (h := ?_)))
    | (with_reducible refine wpList_nil ?_)
    | (with_reducible refine wp_region_lit ?_)
    | (with_reducible refine wp_block ?_)
    | (with_reducible refine wp_skip ?_)
    | (with_reducible refine wp_exit ?_)
    | (with_reducible refine wp_ret ?_)
    | ((with_reducible refine wp_seq_k ?_); intro _ _)
    | (go_at_K; go_step)
    | (simp only [Exit.then, Exit.inBlock, ↓reduceIte, Nat.reduceEqDiff])
    | ((with_reducible refine Sy.is_drawn (id := 10) ?_); refine Sy.sx_regionW T F 4 rfl (.t 0 (.t 1 (.t 2 (.t 3 (.t 4 (.t 5 (.t 6 (.h 7 (.h 8 (.h 9 (.t 10 .e))))))))))) [] (by kernel_rfl) ?_; (clear F; intro w F); dsimp only)
    | ((with_reducible refine Sy.is_drawn (id := 13) ?_); refine Sy.sx_regionW T F 4 rfl (.t 0 (.t 1 (.t 2 (.t 3 (.t 4 (.t 5 (.t 6 (.t 7 (.t 8 (.t 9 (.t 10 (.h 11 (.h 12 (.h 13 (.t 14 .e))))))))))))))) [] (by kernel_rfl) ?_; (clear F; intro w F); dsimp only)
    | ((with_reducible refine Sy.is_drawn (id := 15) ?_); refine Sy.sx_regionW T F 4 rfl (.t 0 (.t 1 (.t 2 (.t 3 (.t 4 (.t 5 (.t 6 (.h 7 (.h 8 (.h 9 (.t 10 .e))))))))))) [] (by kernel_rfl) ?_; (clear F; intro w F); dsimp only)
    | ((first | refine Sy.sx_plain (h := ?_) | refine Sy.sx_guard (T := T) (h := ?_)); (first | ((with_reducible refine Sy.ux_load ?_); (first | refine Sy.sx_val (Sy.rx_loadOne T F) T rfl ?_ | refine Sy.sx_val (Sy.rx_oldOne T F) T rfl ?_ | refine Sy.sx_val (Sy.rx_loadAll T F) T rfl ?_ | (refine Sy.sx_loadCut T F (h := ?_); conv => whnf) | refine Sy.sx_val (Sy.rx_oldAgg T F) T rfl ?_ | (refine Sy.sx_oldCut T F (h := ?_); conv => whnf)); clear T; intro ac T) | ((with_reducible refine Sy.ux_build ?_); refine Sy.sx_build T (h := ?_); (conv => whnf); (repeat (refine ⟨by first | exact rfl | exact ⟨rfl, rfl⟩, ?_⟩; (conv => whnf))); clear T; intro ac T) | (refine Sy.sx_pure T (h := ?_); clear T; intro ac T)); show Sy.wpUx _ _ _ _ _ _ _ _ _)
    | ((first | refine Sy.sx_unguard (T := T) (h := ?_) | refine Sy.sx_unguardH (T := T) (h := ?_)); clear T; intro ac T)
    | (with_reducible refine Sy.sx_fork ?_ ?_)
    | (with_reducible refine Sy.sx_nil ?_)
    | (with_reducible refine Sy.sx_end ?_)
    | (with_reducible refine Sy.sx_tail rfl rfl (fun K hK => ?_))
    | ((first | refine Sy.sx_new (T := T) (F := F) (hr := Sy.new_boxAgg T rfl) (h := ?_) | refine Sy.sx_new (T := T) (F := F) (hr := Sy.new_boxOne T rfl rfl) (h := ?_) | refine Sy.sx_new (T := T) (F := F) (hr := Sy.new_alloc rfl) (h := ?_)); clear T F; intro ac g w T F)
    | ((first | refine Sy.sx_storeAll (T := T) (F := F) (h := ?_) | (refine Sy.sx_storeOne (T := T) (F := F) (h := ?_); conv => whnf) | (refine Sy.sx_storeAgg (T := T) (F := F) (h := ?_); conv => whnf)); clear T F; intro ac w T F))
  have G := nextR_any F.sub h a.set hset
  unfold nextV at G
  refine Sy.st_callV0 T F (hc := G) (h := ?_); (clear T F; intro ac w T F)
  repeat (first
    | (((with_reducible refine Sy.is_guard ?_); (first | refine Sy.st_guard T (h := ?_) | (refine Sy.st_unguard T (h := ?_); clear T; intro ac T))))
    | (((with_reducible refine Sy.is_load ?_); (first | refine Sy.st_loadOne T F (h := ?_) | refine Sy.st_oldOne T F (h := ?_) | refine Sy.st_loadAll T F (h := ?_) | (refine Sy.st_loadCut T F (h := ?_); conv => whnf) | refine Sy.st_oldAgg T F (h := ?_) | (refine Sy.st_oldCut T F (h := ?_); conv => whnf)); clear T; intro ac T))
    | (((with_reducible refine Sy.is_store ?_); (first | refine Sy.st_storeAll T F (h := ?_) | (refine Sy.st_storeOne T F (h := ?_); conv => whnf) | (refine Sy.st_storeAgg T F (h := ?_); conv => whnf)); clear T F; intro ac w T F))
    | (((with_reducible refine Sy.is_box ?_); (first | refine Sy.st_boxAgg T F (h := ?_) | refine Sy.st_boxOne T F (h := ?_)); clear T F; intro ac g w T F))
    | (((with_reducible refine Sy.is_alloc ?_); refine Sy.st_alloc T F (h := ?_); clear T F; intro ac g w T F))
    | (((with_reducible refine Sy.is_build ?_); refine Sy.st_build T (h := ?_); (conv => whnf); (repeat (refine ⟨by first | exact rfl | exact ⟨rfl, rfl⟩, ?_⟩; (conv => whnf))); clear T; intro ac T))
    | (((with_reducible refine Sy.is_op ?_); refine Sy.st_pure T (h := ?_); clear T; intro ac T))
    | ((with_reducible refine Sy.atK (hK _ _ ?_)))
    | ((with_reducible refine Sy.is_cond ?_); (first | refine Sy.st_true T (h := ?_) | refine Sy.st_false T (h := ?_)))
    | (with_reducible refine wpList_nil ?_)
    | (with_reducible refine wp_region_lit ?_)
    | (with_reducible refine wp_block ?_)
    | (with_reducible refine wp_skip ?_)
    | (with_reducible refine wp_exit ?_)
    | (with_reducible refine wp_ret ?_)
    | ((with_reducible refine wp_seq_k ?_); intro _ _)
    | (go_at_K; go_step)
    | (simp only [Exit.then, Exit.inBlock, ↓reduceIte, Nat.reduceEqDiff])
    | ((with_reducible refine Sy.is_drawn (id := 10) ?_); refine Sy.sx_regionW T F 4 rfl (.t 0 (.t 1 (.t 2 (.t 3 (.t 4 (.t 5 (.t 6 (.h 7 (.h 8 (.h 9 (.t 10 .e))))))))))) [] (by kernel_rfl) ?_; (clear F; intro w F); dsimp only)
    | ((with_reducible refine Sy.is_drawn (id := 13) ?_); refine Sy.sx_regionW T F 4 rfl (.t 0 (.t 1 (.t 2 (.t 3 (.t 4 (.t 5 (.t 6 (.t 7 (.t 8 (.t 9 (.t 10 (.h 11 (.h 12 (.h 13 (.t 14 .e))))))))))))))) [] (by kernel_rfl) ?_; (clear F; intro w F); dsimp only)
    | ((with_reducible refine Sy.is_drawn (id := 15) ?_); refine Sy.sx_regionW T F 4 rfl (.t 0 (.t 1 (.t 2 (.t 3 (.t 4 (.t 5 (.t 6 (.h 7 (.h 8 (.h 9 (.t 10 .e))))))))))) [] (by kernel_rfl) ?_; (clear F; intro w F); dsimp only)
    | ((first | refine Sy.sx_plain (h := ?_) | refine Sy.sx_guard (T := T) (h := ?_)); (first | ((with_reducible refine Sy.ux_load ?_); (first | refine Sy.sx_val (Sy.rx_loadOne T F) T rfl ?_ | refine Sy.sx_val (Sy.rx_oldOne T F) T rfl ?_ | refine Sy.sx_val (Sy.rx_loadAll T F) T rfl ?_ | (refine Sy.sx_loadCut T F (h := ?_); conv => whnf) | refine Sy.sx_val (Sy.rx_oldAgg T F) T rfl ?_ | (refine Sy.sx_oldCut T F (h := ?_); conv => whnf)); clear T; intro ac T) | ((with_reducible refine Sy.ux_build ?_); refine Sy.sx_build T (h := ?_); (conv => whnf); (repeat (refine ⟨by first | exact rfl | exact ⟨rfl, rfl⟩, ?_⟩; (conv => whnf))); clear T; intro ac T) | (refine Sy.sx_pure T (h := ?_); clear T; intro ac T)); show Sy.wpUx _ _ _ _ _ _ _ _ _)
    | ((first | refine Sy.sx_unguard (T := T) (h := ?_) | refine Sy.sx_unguardH (T := T) (h := ?_)); clear T; intro ac T)
    | (with_reducible refine Sy.sx_fork ?_ ?_)
    | (with_reducible refine Sy.sx_nil ?_)
    | (with_reducible refine Sy.sx_end ?_)
    | (with_reducible refine Sy.sx_tail rfl rfl (fun K hK => ?_))
    | ((first | refine Sy.sx_new (T := T) (F := F) (hr := Sy.new_boxAgg T rfl) (h := ?_) | refine Sy.sx_new (T := T) (F := F) (hr := Sy.new_boxOne T rfl rfl) (h := ?_) | refine Sy.sx_new (T := T) (F := F) (hr := Sy.new_alloc rfl) (h := ?_)); clear T F; intro ac g w T F)
    | ((first | refine Sy.sx_storeAll (T := T) (F := F) (h := ?_) | (refine Sy.sx_storeOne (T := T) (F := F) (h := ?_); conv => whnf) | (refine Sy.sx_storeAgg (T := T) (F := F) (h := ?_); conv => whnf)); clear T F; intro ac w T F))
  have G := wants_any F.sub hT h
  unfold wantsV at G
  refine Sy.st_callV0 T F (hc := G) (h := ?_); (clear T F; intro ac w T F)
  repeat (first
    | (((with_reducible refine Sy.is_guard ?_); (first | refine Sy.st_guard T (h := ?_) | (refine Sy.st_unguard T (h := ?_); clear T; intro ac T))))
    | (((with_reducible refine Sy.is_load ?_); (first | refine Sy.st_loadOne T F (h := ?_) | refine Sy.st_oldOne T F (h := ?_) | refine Sy.st_loadAll T F (h := ?_) | (refine Sy.st_loadCut T F (h := ?_); conv => whnf) | refine Sy.st_oldAgg T F (h := ?_) | (refine Sy.st_oldCut T F (h := ?_); conv => whnf)); clear T; intro ac T))
    | (((with_reducible refine Sy.is_store ?_); (first | refine Sy.st_storeAll T F (h := ?_) | (refine Sy.st_storeOne T F (h := ?_); conv => whnf) | (refine Sy.st_storeAgg T F (h := ?_); conv => whnf)); clear T F; intro ac w T F))
    | (((with_reducible refine Sy.is_box ?_); (first | refine Sy.st_boxAgg T F (h := ?_) | refine Sy.st_boxOne T F (h := ?_)); clear T F; intro ac g w T F))
    | (((with_reducible refine Sy.is_alloc ?_); refine Sy.st_alloc T F (h := ?_); clear T F; intro ac g w T F))
    | (((with_reducible refine Sy.is_build ?_); refine Sy.st_build T (h := ?_); (conv => whnf); (repeat (refine ⟨by first | exact rfl | exact ⟨rfl, rfl⟩, ?_⟩; (conv => whnf))); clear T; intro ac T))
    | (((with_reducible refine Sy.is_op ?_); refine Sy.st_pure T (h := ?_); clear T; intro ac T))
    | ((with_reducible refine Sy.atK (hK _ _ ?_)))
    | ((with_reducible refine Sy.is_cond ?_); (first | refine Sy.st_true T (h := ?_) | refine Sy.st_false T (h := ?_)))
    | (with_reducible refine wpList_nil ?_)
    | (with_reducible refine wp_region_lit ?_)
    | (with_reducible refine wp_block ?_)
    | (with_reducible refine wp_skip ?_)
    | (with_reducible refine wp_exit ?_)
    | (with_reducible refine wp_ret ?_)
    | ((with_reducible refine wp_seq_k ?_); intro _ _)
    | (go_at_K; go_step)
    | (simp only [Exit.then, Exit.inBlock, ↓reduceIte, Nat.reduceEqDiff])
    | ((with_reducible refine Sy.is_drawn (id := 10) ?_); refine Sy.sx_regionW T F 4 rfl (.t 0 (.t 1 (.t 2 (.t 3 (.t 4 (.t 5 (.t 6 (.h 7 (.h 8 (.h 9 (.t 10 .e))))))))))) [] (by kernel_rfl) ?_; (clear F; intro w F); dsimp only)
    | ((with_reducible refine Sy.is_drawn (id := 13) ?_); refine Sy.sx_regionW T F 4 rfl (.t 0 (.t 1 (.t 2 (.t 3 (.t 4 (.t 5 (.t 6 (.t 7 (.t 8 (.t 9 (.t 10 (.h 11 (.h 12 (.h 13 (.t 14 .e))))))))))))))) [] (by kernel_rfl) ?_; (clear F; intro w F); dsimp only)
    | ((with_reducible refine Sy.is_drawn (id := 15) ?_); refine Sy.sx_regionW T F 4 rfl (.t 0 (.t 1 (.t 2 (.t 3 (.t 4 (.t 5 (.t 6 (.h 7 (.h 8 (.h 9 (.t 10 .e))))))))))) [] (by kernel_rfl) ?_; (clear F; intro w F); dsimp only)
    | ((first | refine Sy.sx_plain (h := ?_) | refine Sy.sx_guard (T := T) (h := ?_)); (first | ((with_reducible refine Sy.ux_load ?_); (first | refine Sy.sx_val (Sy.rx_loadOne T F) T rfl ?_ | refine Sy.sx_val (Sy.rx_oldOne T F) T rfl ?_ | refine Sy.sx_val (Sy.rx_loadAll T F) T rfl ?_ | (refine Sy.sx_loadCut T F (h := ?_); conv => whnf) | refine Sy.sx_val (Sy.rx_oldAgg T F) T rfl ?_ | (refine Sy.sx_oldCut T F (h := ?_); conv => whnf)); clear T; intro ac T) | ((with_reducible refine Sy.ux_build ?_); refine Sy.sx_build T (h := ?_); (conv => whnf); (repeat (refine ⟨by first | exact rfl | exact ⟨rfl, rfl⟩, ?_⟩; (conv => whnf))); clear T; intro ac T) | (refine Sy.sx_pure T (h := ?_); clear T; intro ac T)); show Sy.wpUx _ _ _ _ _ _ _ _ _)
    | ((first | refine Sy.sx_unguard (T := T) (h := ?_) | refine Sy.sx_unguardH (T := T) (h := ?_)); clear T; intro ac T)
    | (with_reducible refine Sy.sx_fork ?_ ?_)
    | (with_reducible refine Sy.sx_nil ?_)
    | (with_reducible refine Sy.sx_end ?_)
    | (with_reducible refine Sy.sx_tail rfl rfl (fun K hK => ?_))
    | ((first | refine Sy.sx_new (T := T) (F := F) (hr := Sy.new_boxAgg T rfl) (h := ?_) | refine Sy.sx_new (T := T) (F := F) (hr := Sy.new_boxOne T rfl rfl) (h := ?_) | refine Sy.sx_new (T := T) (F := F) (hr := Sy.new_alloc rfl) (h := ?_)); clear T F; intro ac g w T F)
    | ((first | refine Sy.sx_storeAll (T := T) (F := F) (h := ?_) | (refine Sy.sx_storeOne (T := T) (F := F) (h := ?_); conv => whnf) | (refine Sy.sx_storeAgg (T := T) (F := F) (h := ?_); conv => whnf)); clear T F; intro ac w T F))
  have G := wantsR_any F.sub h
  unfold wantsV at G
  refine Sy.st_callV0 T F (hc := G) (h := ?_); (clear T F; intro ac w T F)
  by_cases h0 : a.kind = 0
  · have t0 := eqT h0
    have he : actS x a = adoptS x a.node a.set := by unfold actS; rw [if_pos h0]
    repeat (first
    | (((with_reducible refine Sy.is_guard ?_); (first | refine Sy.st_guard T (h := ?_) | (refine Sy.st_unguard T (h := ?_); clear T; intro ac T))))
    | (((with_reducible refine Sy.is_load ?_); (first | refine Sy.st_loadOne T F (h := ?_) | refine Sy.st_oldOne T F (h := ?_) | refine Sy.st_loadAll T F (h := ?_) | (refine Sy.st_loadCut T F (h := ?_); conv => whnf) | refine Sy.st_oldAgg T F (h := ?_) | (refine Sy.st_oldCut T F (h := ?_); conv => whnf)); clear T; intro ac T))
    | (((with_reducible refine Sy.is_store ?_); (first | refine Sy.st_storeAll T F (h := ?_) | (refine Sy.st_storeOne T F (h := ?_); conv => whnf) | (refine Sy.st_storeAgg T F (h := ?_); conv => whnf)); clear T F; intro ac w T F))
    | (((with_reducible refine Sy.is_box ?_); (first | refine Sy.st_boxAgg T F (h := ?_) | refine Sy.st_boxOne T F (h := ?_)); clear T F; intro ac g w T F))
    | (((with_reducible refine Sy.is_alloc ?_); refine Sy.st_alloc T F (h := ?_); clear T F; intro ac g w T F))
    | (((with_reducible refine Sy.is_build ?_); refine Sy.st_build T (h := ?_); (conv => whnf); (repeat (refine ⟨by first | exact rfl | exact ⟨rfl, rfl⟩, ?_⟩; (conv => whnf))); clear T; intro ac T))
    | (((with_reducible refine Sy.is_op ?_); refine Sy.st_pure T (h := ?_); clear T; intro ac T))
    | ((with_reducible refine Sy.atK (hK _ _ ?_)))
    | ((with_reducible refine Sy.is_cond ?_); (first | refine Sy.st_true T (h := ?_) | refine Sy.st_false T (h := ?_)))
    | (with_reducible refine wpList_nil ?_)
    | (with_reducible refine wp_region_lit ?_)
    | (with_reducible refine wp_block ?_)
    | (with_reducible refine wp_skip ?_)
    | (with_reducible refine wp_exit ?_)
    | (with_reducible refine wp_ret ?_)
    | ((with_reducible refine wp_seq_k ?_); intro _ _)
    | (go_at_K; go_step)
    | (simp only [Exit.then, Exit.inBlock, ↓reduceIte, Nat.reduceEqDiff])
    | ((with_reducible refine Sy.is_drawn (id := 10) ?_); refine Sy.sx_regionW T F 4 rfl (.t 0 (.t 1 (.t 2 (.t 3 (.t 4 (.t 5 (.t 6 (.h 7 (.h 8 (.h 9 (.t 10 .e))))))))))) [] (by kernel_rfl) ?_; (clear F; intro w F); dsimp only)
    | ((with_reducible refine Sy.is_drawn (id := 13) ?_); refine Sy.sx_regionW T F 4 rfl (.t 0 (.t 1 (.t 2 (.t 3 (.t 4 (.t 5 (.t 6 (.t 7 (.t 8 (.t 9 (.t 10 (.h 11 (.h 12 (.h 13 (.t 14 .e))))))))))))))) [] (by kernel_rfl) ?_; (clear F; intro w F); dsimp only)
    | ((with_reducible refine Sy.is_drawn (id := 15) ?_); refine Sy.sx_regionW T F 4 rfl (.t 0 (.t 1 (.t 2 (.t 3 (.t 4 (.t 5 (.t 6 (.h 7 (.h 8 (.h 9 (.t 10 .e))))))))))) [] (by kernel_rfl) ?_; (clear F; intro w F); dsimp only)
    | ((first | refine Sy.sx_plain (h := ?_) | refine Sy.sx_guard (T := T) (h := ?_)); (first | ((with_reducible refine Sy.ux_load ?_); (first | refine Sy.sx_val (Sy.rx_loadOne T F) T rfl ?_ | refine Sy.sx_val (Sy.rx_oldOne T F) T rfl ?_ | refine Sy.sx_val (Sy.rx_loadAll T F) T rfl ?_ | (refine Sy.sx_loadCut T F (h := ?_); conv => whnf) | refine Sy.sx_val (Sy.rx_oldAgg T F) T rfl ?_ | (refine Sy.sx_oldCut T F (h := ?_); conv => whnf)); clear T; intro ac T) | ((with_reducible refine Sy.ux_build ?_); refine Sy.sx_build T (h := ?_); (conv => whnf); (repeat (refine ⟨by first | exact rfl | exact ⟨rfl, rfl⟩, ?_⟩; (conv => whnf))); clear T; intro ac T) | (refine Sy.sx_pure T (h := ?_); clear T; intro ac T)); show Sy.wpUx _ _ _ _ _ _ _ _ _)
    | ((first | refine Sy.sx_unguard (T := T) (h := ?_) | refine Sy.sx_unguardH (T := T) (h := ?_)); clear T; intro ac T)
    | (with_reducible refine Sy.sx_fork ?_ ?_)
    | (with_reducible refine Sy.sx_nil ?_)
    | (with_reducible refine Sy.sx_end ?_)
    | (with_reducible refine Sy.sx_tail rfl rfl (fun K hK => ?_))
    | ((first | refine Sy.sx_new (T := T) (F := F) (hr := Sy.new_boxAgg T rfl) (h := ?_) | refine Sy.sx_new (T := T) (F := F) (hr := Sy.new_boxOne T rfl rfl) (h := ?_) | refine Sy.sx_new (T := T) (F := F) (hr := Sy.new_alloc rfl) (h := ?_)); clear T F; intro ac g w T F)
    | ((first | refine Sy.sx_storeAll (T := T) (F := F) (h := ?_) | (refine Sy.sx_storeOne (T := T) (F := F) (h := ?_); conv => whnf) | (refine Sy.sx_storeAgg (T := T) (F := F) (h := ?_); conv => whnf)); clear T F; intro ac w T F))
    refine Sy.st_callM0 T F (hc := adopt_any F.sub h a.node hn a.set hset) (h := ?_); (clear T F; intro v m ac w hR hS T F)
    obtain ⟨r1, rfl, hr1⟩ := hR
    replace h := h.sub hS
    repeat (first
    | (((with_reducible refine Sy.is_guard ?_); (first | refine Sy.st_guard T (h := ?_) | (refine Sy.st_unguard T (h := ?_); clear T; intro ac T))))
    | (((with_reducible refine Sy.is_load ?_); (first | refine Sy.st_loadOne T F (h := ?_) | refine Sy.st_oldOne T F (h := ?_) | refine Sy.st_loadAll T F (h := ?_) | (refine Sy.st_loadCut T F (h := ?_); conv => whnf) | refine Sy.st_oldAgg T F (h := ?_) | (refine Sy.st_oldCut T F (h := ?_); conv => whnf)); clear T; intro ac T))
    | (((with_reducible refine Sy.is_store ?_); (first | refine Sy.st_storeAll T F (h := ?_) | (refine Sy.st_storeOne T F (h := ?_); conv => whnf) | (refine Sy.st_storeAgg T F (h := ?_); conv => whnf)); clear T F; intro ac w T F))
    | (((with_reducible refine Sy.is_box ?_); (first | refine Sy.st_boxAgg T F (h := ?_) | refine Sy.st_boxOne T F (h := ?_)); clear T F; intro ac g w T F))
    | (((with_reducible refine Sy.is_alloc ?_); refine Sy.st_alloc T F (h := ?_); clear T F; intro ac g w T F))
    | (((with_reducible refine Sy.is_build ?_); refine Sy.st_build T (h := ?_); (conv => whnf); (repeat (refine ⟨by first | exact rfl | exact ⟨rfl, rfl⟩, ?_⟩; (conv => whnf))); clear T; intro ac T))
    | (((with_reducible refine Sy.is_op ?_); refine Sy.st_pure T (h := ?_); clear T; intro ac T))
    | ((with_reducible refine Sy.atK (hK _ _ ?_)))
    | ((with_reducible refine Sy.is_cond ?_); (first | refine Sy.st_true T (h := ?_) | refine Sy.st_false T (h := ?_)))
    | (with_reducible refine wpList_nil ?_)
    | (with_reducible refine wp_region_lit ?_)
    | (with_reducible refine wp_block ?_)
    | (with_reducible refine wp_skip ?_)
    | (with_reducible refine wp_exit ?_)
    | (with_reducible refine wp_ret ?_)
    | ((with_reducible refine wp_seq_k ?_); intro _ _)
    | (go_at_K; go_step)
    | (simp only [Exit.then, Exit.inBlock, ↓reduceIte, Nat.reduceEqDiff])
    | ((with_reducible refine Sy.is_drawn (id := 10) ?_); refine Sy.sx_regionW T F 4 rfl (.t 0 (.t 1 (.t 2 (.t 3 (.t 4 (.t 5 (.t 6 (.h 7 (.h 8 (.h 9 (.t 10 .e))))))))))) [] (by kernel_rfl) ?_; (clear F; intro w F); dsimp only)
    | ((with_reducible refine Sy.is_drawn (id := 13) ?_); refine Sy.sx_regionW T F 4 rfl (.t 0 (.t 1 (.t 2 (.t 3 (.t 4 (.t 5 (.t 6 (.t 7 (.t 8 (.t 9 (.t 10 (.h 11 (.h 12 (.h 13 (.t 14 .e))))))))))))))) [] (by kernel_rfl) ?_; (clear F; intro w F); dsimp only)
    | ((with_reducible refine Sy.is_drawn (id := 15) ?_); refine Sy.sx_regionW T F 4 rfl (.t 0 (.t 1 (.t 2 (.t 3 (.t 4 (.t 5 (.t 6 (.h 7 (.h 8 (.h 9 (.t 10 .e))))))))))) [] (by kernel_rfl) ?_; (clear F; intro w F); dsimp only)
    | ((first | refine Sy.sx_plain (h := ?_) | refine Sy.sx_guard (T := T) (h := ?_)); (first | ((with_reducible refine Sy.ux_load ?_); (first | refine Sy.sx_val (Sy.rx_loadOne T F) T rfl ?_ | refine Sy.sx_val (Sy.rx_oldOne T F) T rfl ?_ | refine Sy.sx_val (Sy.rx_loadAll T F) T rfl ?_ | (refine Sy.sx_loadCut T F (h := ?_); conv => whnf) | refine Sy.sx_val (Sy.rx_oldAgg T F) T rfl ?_ | (refine Sy.sx_oldCut T F (h := ?_); conv => whnf)); clear T; intro ac T) | ((with_reducible refine Sy.ux_build ?_); refine Sy.sx_build T (h := ?_); (conv => whnf); (repeat (refine ⟨by first | exact rfl | exact ⟨rfl, rfl⟩, ?_⟩; (conv => whnf))); clear T; intro ac T) | (refine Sy.sx_pure T (h := ?_); clear T; intro ac T)); show Sy.wpUx _ _ _ _ _ _ _ _ _)
    | ((first | refine Sy.sx_unguard (T := T) (h := ?_) | refine Sy.sx_unguardH (T := T) (h := ?_)); clear T; intro ac T)
    | (with_reducible refine Sy.sx_fork ?_ ?_)
    | (with_reducible refine Sy.sx_nil ?_)
    | (with_reducible refine Sy.sx_end ?_)
    | (with_reducible refine Sy.sx_tail rfl rfl (fun K hK => ?_))
    | ((first | refine Sy.sx_new (T := T) (F := F) (hr := Sy.new_boxAgg T rfl) (h := ?_) | refine Sy.sx_new (T := T) (F := F) (hr := Sy.new_boxOne T rfl rfl) (h := ?_) | refine Sy.sx_new (T := T) (F := F) (hr := Sy.new_alloc rfl) (h := ?_)); clear T F; intro ac g w T F)
    | ((first | refine Sy.sx_storeAll (T := T) (F := F) (h := ?_) | (refine Sy.sx_storeOne (T := T) (F := F) (h := ?_); conv => whnf) | (refine Sy.sx_storeAgg (T := T) (F := F) (h := ?_); conv => whnf)); clear T F; intro ac w T F))
    refine Sy.sx_callM0 rfl T F (hc := adoptR_any F.sub h a.node hn a.set hset) (h := ?_); (clear T F; intro v m ac w hR hS T F)
    obtain ⟨r2, rfl, hr2⟩ := hR
    replace hr1 := hr1.sub hS
    repeat (first
    | (((with_reducible refine Sy.is_guard ?_); (first | refine Sy.st_guard T (h := ?_) | (refine Sy.st_unguard T (h := ?_); clear T; intro ac T))))
    | (((with_reducible refine Sy.is_load ?_); (first | refine Sy.st_loadOne T F (h := ?_) | refine Sy.st_oldOne T F (h := ?_) | refine Sy.st_loadAll T F (h := ?_) | (refine Sy.st_loadCut T F (h := ?_); conv => whnf) | refine Sy.st_oldAgg T F (h := ?_) | (refine Sy.st_oldCut T F (h := ?_); conv => whnf)); clear T; intro ac T))
    | (((with_reducible refine Sy.is_store ?_); (first | refine Sy.st_storeAll T F (h := ?_) | (refine Sy.st_storeOne T F (h := ?_); conv => whnf) | (refine Sy.st_storeAgg T F (h := ?_); conv => whnf)); clear T F; intro ac w T F))
    | (((with_reducible refine Sy.is_box ?_); (first | refine Sy.st_boxAgg T F (h := ?_) | refine Sy.st_boxOne T F (h := ?_)); clear T F; intro ac g w T F))
    | (((with_reducible refine Sy.is_alloc ?_); refine Sy.st_alloc T F (h := ?_); clear T F; intro ac g w T F))
    | (((with_reducible refine Sy.is_build ?_); refine Sy.st_build T (h := ?_); (conv => whnf); (repeat (refine ⟨by first | exact rfl | exact ⟨rfl, rfl⟩, ?_⟩; (conv => whnf))); clear T; intro ac T))
    | (((with_reducible refine Sy.is_op ?_); refine Sy.st_pure T (h := ?_); clear T; intro ac T))
    | ((with_reducible refine Sy.atK (hK _ _ ?_)))
    | ((with_reducible refine Sy.is_cond ?_); (first | refine Sy.st_true T (h := ?_) | refine Sy.st_false T (h := ?_)))
    | (with_reducible refine wpList_nil ?_)
    | (with_reducible refine wp_region_lit ?_)
    | (with_reducible refine wp_block ?_)
    | (with_reducible refine wp_skip ?_)
    | (with_reducible refine wp_exit ?_)
    | (with_reducible refine wp_ret ?_)
    | ((with_reducible refine wp_seq_k ?_); intro _ _)
    | (go_at_K; go_step)
    | (simp only [Exit.then, Exit.inBlock, ↓reduceIte, Nat.reduceEqDiff])
    | ((with_reducible refine Sy.is_drawn (id := 10) ?_); refine Sy.sx_regionW T F 4 rfl (.t 0 (.t 1 (.t 2 (.t 3 (.t 4 (.t 5 (.t 6 (.h 7 (.h 8 (.h 9 (.t 10 .e))))))))))) [] (by kernel_rfl) ?_; (clear F; intro w F); dsimp only)
    | ((with_reducible refine Sy.is_drawn (id := 13) ?_); refine Sy.sx_regionW T F 4 rfl (.t 0 (.t 1 (.t 2 (.t 3 (.t 4 (.t 5 (.t 6 (.t 7 (.t 8 (.t 9 (.t 10 (.h 11 (.h 12 (.h 13 (.t 14 .e))))))))))))))) [] (by kernel_rfl) ?_; (clear F; intro w F); dsimp only)
    | ((with_reducible refine Sy.is_drawn (id := 15) ?_); refine Sy.sx_regionW T F 4 rfl (.t 0 (.t 1 (.t 2 (.t 3 (.t 4 (.t 5 (.t 6 (.h 7 (.h 8 (.h 9 (.t 10 .e))))))))))) [] (by kernel_rfl) ?_; (clear F; intro w F); dsimp only)
    | ((first | refine Sy.sx_plain (h := ?_) | refine Sy.sx_guard (T := T) (h := ?_)); (first | ((with_reducible refine Sy.ux_load ?_); (first | refine Sy.sx_val (Sy.rx_loadOne T F) T rfl ?_ | refine Sy.sx_val (Sy.rx_oldOne T F) T rfl ?_ | refine Sy.sx_val (Sy.rx_loadAll T F) T rfl ?_ | (refine Sy.sx_loadCut T F (h := ?_); conv => whnf) | refine Sy.sx_val (Sy.rx_oldAgg T F) T rfl ?_ | (refine Sy.sx_oldCut T F (h := ?_); conv => whnf)); clear T; intro ac T) | ((with_reducible refine Sy.ux_build ?_); refine Sy.sx_build T (h := ?_); (conv => whnf); (repeat (refine ⟨by first | exact rfl | exact ⟨rfl, rfl⟩, ?_⟩; (conv => whnf))); clear T; intro ac T) | (refine Sy.sx_pure T (h := ?_); clear T; intro ac T)); show Sy.wpUx _ _ _ _ _ _ _ _ _)
    | ((first | refine Sy.sx_unguard (T := T) (h := ?_) | refine Sy.sx_unguardH (T := T) (h := ?_)); clear T; intro ac T)
    | (with_reducible refine Sy.sx_fork ?_ ?_)
    | (with_reducible refine Sy.sx_nil ?_)
    | (with_reducible refine Sy.sx_end ?_)
    | (with_reducible refine Sy.sx_tail rfl rfl (fun K hK => ?_))
    | ((first | refine Sy.sx_new (T := T) (F := F) (hr := Sy.new_boxAgg T rfl) (h := ?_) | refine Sy.sx_new (T := T) (F := F) (hr := Sy.new_boxOne T rfl rfl) (h := ?_) | refine Sy.sx_new (T := T) (F := F) (hr := Sy.new_alloc rfl) (h := ?_)); clear T F; intro ac g w T F)
    | ((first | refine Sy.sx_storeAll (T := T) (F := F) (h := ?_) | (refine Sy.sx_storeOne (T := T) (F := F) (h := ?_); conv => whnf) | (refine Sy.sx_storeAgg (T := T) (F := F) (h := ?_); conv => whnf)); clear T F; intro ac w T F))
    refine Sy.sx_callV0 rfl T F (hc := sameM_any _ (hr1.sub F.sub) (hr2.sub F.sub)) (h := ?_); (clear T F; intro ac w T F)
    repeat (first
    | (((with_reducible refine Sy.is_guard ?_); (first | refine Sy.st_guard T (h := ?_) | (refine Sy.st_unguard T (h := ?_); clear T; intro ac T))))
    | (((with_reducible refine Sy.is_load ?_); (first | refine Sy.st_loadOne T F (h := ?_) | refine Sy.st_oldOne T F (h := ?_) | refine Sy.st_loadAll T F (h := ?_) | (refine Sy.st_loadCut T F (h := ?_); conv => whnf) | refine Sy.st_oldAgg T F (h := ?_) | (refine Sy.st_oldCut T F (h := ?_); conv => whnf)); clear T; intro ac T))
    | (((with_reducible refine Sy.is_store ?_); (first | refine Sy.st_storeAll T F (h := ?_) | (refine Sy.st_storeOne T F (h := ?_); conv => whnf) | (refine Sy.st_storeAgg T F (h := ?_); conv => whnf)); clear T F; intro ac w T F))
    | (((with_reducible refine Sy.is_box ?_); (first | refine Sy.st_boxAgg T F (h := ?_) | refine Sy.st_boxOne T F (h := ?_)); clear T F; intro ac g w T F))
    | (((with_reducible refine Sy.is_alloc ?_); refine Sy.st_alloc T F (h := ?_); clear T F; intro ac g w T F))
    | (((with_reducible refine Sy.is_build ?_); refine Sy.st_build T (h := ?_); (conv => whnf); (repeat (refine ⟨by first | exact rfl | exact ⟨rfl, rfl⟩, ?_⟩; (conv => whnf))); clear T; intro ac T))
    | (((with_reducible refine Sy.is_op ?_); refine Sy.st_pure T (h := ?_); clear T; intro ac T))
    | ((with_reducible refine Sy.atK (hK _ _ ?_)))
    | ((with_reducible refine Sy.is_cond ?_); (first | refine Sy.st_true T (h := ?_) | refine Sy.st_false T (h := ?_)))
    | (with_reducible refine wpList_nil ?_)
    | (with_reducible refine wp_region_lit ?_)
    | (with_reducible refine wp_block ?_)
    | (with_reducible refine wp_skip ?_)
    | (with_reducible refine wp_exit ?_)
    | (with_reducible refine wp_ret ?_)
    | ((with_reducible refine wp_seq_k ?_); intro _ _)
    | (go_at_K; go_step)
    | (simp only [Exit.then, Exit.inBlock, ↓reduceIte, Nat.reduceEqDiff])
    | ((with_reducible refine Sy.is_drawn (id := 10) ?_); refine Sy.sx_regionW T F 4 rfl (.t 0 (.t 1 (.t 2 (.t 3 (.t 4 (.t 5 (.t 6 (.h 7 (.h 8 (.h 9 (.t 10 .e))))))))))) [] (by kernel_rfl) ?_; (clear F; intro w F); dsimp only)
    | ((with_reducible refine Sy.is_drawn (id := 13) ?_); refine Sy.sx_regionW T F 4 rfl (.t 0 (.t 1 (.t 2 (.t 3 (.t 4 (.t 5 (.t 6 (.t 7 (.t 8 (.t 9 (.t 10 (.h 11 (.h 12 (.h 13 (.t 14 .e))))))))))))))) [] (by kernel_rfl) ?_; (clear F; intro w F); dsimp only)
    | ((with_reducible refine Sy.is_drawn (id := 15) ?_); refine Sy.sx_regionW T F 4 rfl (.t 0 (.t 1 (.t 2 (.t 3 (.t 4 (.t 5 (.t 6 (.h 7 (.h 8 (.h 9 (.t 10 .e))))))))))) [] (by kernel_rfl) ?_; (clear F; intro w F); dsimp only)
    | ((first | refine Sy.sx_plain (h := ?_) | refine Sy.sx_guard (T := T) (h := ?_)); (first | ((with_reducible refine Sy.ux_load ?_); (first | refine Sy.sx_val (Sy.rx_loadOne T F) T rfl ?_ | refine Sy.sx_val (Sy.rx_oldOne T F) T rfl ?_ | refine Sy.sx_val (Sy.rx_loadAll T F) T rfl ?_ | (refine Sy.sx_loadCut T F (h := ?_); conv => whnf) | refine Sy.sx_val (Sy.rx_oldAgg T F) T rfl ?_ | (refine Sy.sx_oldCut T F (h := ?_); conv => whnf)); clear T; intro ac T) | ((with_reducible refine Sy.ux_build ?_); refine Sy.sx_build T (h := ?_); (conv => whnf); (repeat (refine ⟨by first | exact rfl | exact ⟨rfl, rfl⟩, ?_⟩; (conv => whnf))); clear T; intro ac T) | (refine Sy.sx_pure T (h := ?_); clear T; intro ac T)); show Sy.wpUx _ _ _ _ _ _ _ _ _)
    | ((first | refine Sy.sx_unguard (T := T) (h := ?_) | refine Sy.sx_unguardH (T := T) (h := ?_)); clear T; intro ac T)
    | (with_reducible refine Sy.sx_fork ?_ ?_)
    | (with_reducible refine Sy.sx_nil ?_)
    | (with_reducible refine Sy.sx_end ?_)
    | (with_reducible refine Sy.sx_tail rfl rfl (fun K hK => ?_))
    | ((first | refine Sy.sx_new (T := T) (F := F) (hr := Sy.new_boxAgg T rfl) (h := ?_) | refine Sy.sx_new (T := T) (F := F) (hr := Sy.new_boxOne T rfl rfl) (h := ?_) | refine Sy.sx_new (T := T) (F := F) (hr := Sy.new_alloc rfl) (h := ?_)); clear T F; intro ac g w T F)
    | ((first | refine Sy.sx_storeAll (T := T) (F := F) (h := ?_) | (refine Sy.sx_storeOne (T := T) (F := F) (h := ?_); conv => whnf) | (refine Sy.sx_storeAgg (T := T) (F := F) (h := ?_); conv => whnf)); clear T F; intro ac w T F))
    ((try simp only [Exit.inBlock, Exit.then]); refine Sy.st_ret2 T F rfl (by repeat (first | exact Sy.ResV.nil | apply Sy.ResV.tmp rfl | apply Sy.ResV.row rfl rfl rfl (by repeat (first | exact Sy.Take.here | apply Sy.Take.there)) (by rfl) | apply Sy.ResV.one rfl rfl rfl (by repeat (first | exact Sy.Take.here | apply Sy.Take.there)) (by rfl))) ?_)
    exact F.retM ⟨r1, by rw [he], by rw [he]; exact hr1⟩
  have t0 := eqF h0
  by_cases h1 : a.kind = 1
  · have t1 := eqT h1
    have he : actS x a = heardS x a.node a.keys a.f a.set := by unfold actS; rw [if_neg h0, if_pos h1]
    repeat (first
    | (((with_reducible refine Sy.is_guard ?_); (first | refine Sy.st_guard T (h := ?_) | (refine Sy.st_unguard T (h := ?_); clear T; intro ac T))))
    | (((with_reducible refine Sy.is_load ?_); (first | refine Sy.st_loadOne T F (h := ?_) | refine Sy.st_oldOne T F (h := ?_) | refine Sy.st_loadAll T F (h := ?_) | (refine Sy.st_loadCut T F (h := ?_); conv => whnf) | refine Sy.st_oldAgg T F (h := ?_) | (refine Sy.st_oldCut T F (h := ?_); conv => whnf)); clear T; intro ac T))
    | (((with_reducible refine Sy.is_store ?_); (first | refine Sy.st_storeAll T F (h := ?_) | (refine Sy.st_storeOne T F (h := ?_); conv => whnf) | (refine Sy.st_storeAgg T F (h := ?_); conv => whnf)); clear T F; intro ac w T F))
    | (((with_reducible refine Sy.is_box ?_); (first | refine Sy.st_boxAgg T F (h := ?_) | refine Sy.st_boxOne T F (h := ?_)); clear T F; intro ac g w T F))
    | (((with_reducible refine Sy.is_alloc ?_); refine Sy.st_alloc T F (h := ?_); clear T F; intro ac g w T F))
    | (((with_reducible refine Sy.is_build ?_); refine Sy.st_build T (h := ?_); (conv => whnf); (repeat (refine ⟨by first | exact rfl | exact ⟨rfl, rfl⟩, ?_⟩; (conv => whnf))); clear T; intro ac T))
    | (((with_reducible refine Sy.is_op ?_); refine Sy.st_pure T (h := ?_); clear T; intro ac T))
    | ((with_reducible refine Sy.atK (hK _ _ ?_)))
    | ((with_reducible refine Sy.is_cond ?_); (first | refine Sy.st_true T (h := ?_) | refine Sy.st_false T (h := ?_)))
    | (with_reducible refine wpList_nil ?_)
    | (with_reducible refine wp_region_lit ?_)
    | (with_reducible refine wp_block ?_)
    | (with_reducible refine wp_skip ?_)
    | (with_reducible refine wp_exit ?_)
    | (with_reducible refine wp_ret ?_)
    | ((with_reducible refine wp_seq_k ?_); intro _ _)
    | (go_at_K; go_step)
    | (simp only [Exit.then, Exit.inBlock, ↓reduceIte, Nat.reduceEqDiff])
    | ((with_reducible refine Sy.is_drawn (id := 10) ?_); refine Sy.sx_regionW T F 4 rfl (.t 0 (.t 1 (.t 2 (.t 3 (.t 4 (.t 5 (.t 6 (.h 7 (.h 8 (.h 9 (.t 10 .e))))))))))) [] (by kernel_rfl) ?_; (clear F; intro w F); dsimp only)
    | ((with_reducible refine Sy.is_drawn (id := 13) ?_); refine Sy.sx_regionW T F 4 rfl (.t 0 (.t 1 (.t 2 (.t 3 (.t 4 (.t 5 (.t 6 (.t 7 (.t 8 (.t 9 (.t 10 (.h 11 (.h 12 (.h 13 (.t 14 .e))))))))))))))) [] (by kernel_rfl) ?_; (clear F; intro w F); dsimp only)
    | ((with_reducible refine Sy.is_drawn (id := 15) ?_); refine Sy.sx_regionW T F 4 rfl (.t 0 (.t 1 (.t 2 (.t 3 (.t 4 (.t 5 (.t 6 (.h 7 (.h 8 (.h 9 (.t 10 .e))))))))))) [] (by kernel_rfl) ?_; (clear F; intro w F); dsimp only)
    | ((first | refine Sy.sx_plain (h := ?_) | refine Sy.sx_guard (T := T) (h := ?_)); (first | ((with_reducible refine Sy.ux_load ?_); (first | refine Sy.sx_val (Sy.rx_loadOne T F) T rfl ?_ | refine Sy.sx_val (Sy.rx_oldOne T F) T rfl ?_ | refine Sy.sx_val (Sy.rx_loadAll T F) T rfl ?_ | (refine Sy.sx_loadCut T F (h := ?_); conv => whnf) | refine Sy.sx_val (Sy.rx_oldAgg T F) T rfl ?_ | (refine Sy.sx_oldCut T F (h := ?_); conv => whnf)); clear T; intro ac T) | ((with_reducible refine Sy.ux_build ?_); refine Sy.sx_build T (h := ?_); (conv => whnf); (repeat (refine ⟨by first | exact rfl | exact ⟨rfl, rfl⟩, ?_⟩; (conv => whnf))); clear T; intro ac T) | (refine Sy.sx_pure T (h := ?_); clear T; intro ac T)); show Sy.wpUx _ _ _ _ _ _ _ _ _)
    | ((first | refine Sy.sx_unguard (T := T) (h := ?_) | refine Sy.sx_unguardH (T := T) (h := ?_)); clear T; intro ac T)
    | (with_reducible refine Sy.sx_fork ?_ ?_)
    | (with_reducible refine Sy.sx_nil ?_)
    | (with_reducible refine Sy.sx_end ?_)
    | (with_reducible refine Sy.sx_tail rfl rfl (fun K hK => ?_))
    | ((first | refine Sy.sx_new (T := T) (F := F) (hr := Sy.new_boxAgg T rfl) (h := ?_) | refine Sy.sx_new (T := T) (F := F) (hr := Sy.new_boxOne T rfl rfl) (h := ?_) | refine Sy.sx_new (T := T) (F := F) (hr := Sy.new_alloc rfl) (h := ?_)); clear T F; intro ac g w T F)
    | ((first | refine Sy.sx_storeAll (T := T) (F := F) (h := ?_) | (refine Sy.sx_storeOne (T := T) (F := F) (h := ?_); conv => whnf) | (refine Sy.sx_storeAgg (T := T) (F := F) (h := ?_); conv => whnf)); clear T F; intro ac w T F))
    refine Sy.st_callM0 T F (hc := heard_any F.sub h a.node hn a.keys hkeys a.f hf a.set hset) (h := ?_); (clear T F; intro v m ac w hR hS T F)
    obtain ⟨r1, rfl, hr1⟩ := hR
    replace h := h.sub hS
    repeat (first
    | (((with_reducible refine Sy.is_guard ?_); (first | refine Sy.st_guard T (h := ?_) | (refine Sy.st_unguard T (h := ?_); clear T; intro ac T))))
    | (((with_reducible refine Sy.is_load ?_); (first | refine Sy.st_loadOne T F (h := ?_) | refine Sy.st_oldOne T F (h := ?_) | refine Sy.st_loadAll T F (h := ?_) | (refine Sy.st_loadCut T F (h := ?_); conv => whnf) | refine Sy.st_oldAgg T F (h := ?_) | (refine Sy.st_oldCut T F (h := ?_); conv => whnf)); clear T; intro ac T))
    | (((with_reducible refine Sy.is_store ?_); (first | refine Sy.st_storeAll T F (h := ?_) | (refine Sy.st_storeOne T F (h := ?_); conv => whnf) | (refine Sy.st_storeAgg T F (h := ?_); conv => whnf)); clear T F; intro ac w T F))
    | (((with_reducible refine Sy.is_box ?_); (first | refine Sy.st_boxAgg T F (h := ?_) | refine Sy.st_boxOne T F (h := ?_)); clear T F; intro ac g w T F))
    | (((with_reducible refine Sy.is_alloc ?_); refine Sy.st_alloc T F (h := ?_); clear T F; intro ac g w T F))
    | (((with_reducible refine Sy.is_build ?_); refine Sy.st_build T (h := ?_); (conv => whnf); (repeat (refine ⟨by first | exact rfl | exact ⟨rfl, rfl⟩, ?_⟩; (conv => whnf))); clear T; intro ac T))
    | (((with_reducible refine Sy.is_op ?_); refine Sy.st_pure T (h := ?_); clear T; intro ac T))
    | ((with_reducible refine Sy.atK (hK _ _ ?_)))
    | ((with_reducible refine Sy.is_cond ?_); (first | refine Sy.st_true T (h := ?_) | refine Sy.st_false T (h := ?_)))
    | (with_reducible refine wpList_nil ?_)
    | (with_reducible refine wp_region_lit ?_)
    | (with_reducible refine wp_block ?_)
    | (with_reducible refine wp_skip ?_)
    | (with_reducible refine wp_exit ?_)
    | (with_reducible refine wp_ret ?_)
    | ((with_reducible refine wp_seq_k ?_); intro _ _)
    | (go_at_K; go_step)
    | (simp only [Exit.then, Exit.inBlock, ↓reduceIte, Nat.reduceEqDiff])
    | ((with_reducible refine Sy.is_drawn (id := 10) ?_); refine Sy.sx_regionW T F 4 rfl (.t 0 (.t 1 (.t 2 (.t 3 (.t 4 (.t 5 (.t 6 (.h 7 (.h 8 (.h 9 (.t 10 .e))))))))))) [] (by kernel_rfl) ?_; (clear F; intro w F); dsimp only)
    | ((with_reducible refine Sy.is_drawn (id := 13) ?_); refine Sy.sx_regionW T F 4 rfl (.t 0 (.t 1 (.t 2 (.t 3 (.t 4 (.t 5 (.t 6 (.t 7 (.t 8 (.t 9 (.t 10 (.h 11 (.h 12 (.h 13 (.t 14 .e))))))))))))))) [] (by kernel_rfl) ?_; (clear F; intro w F); dsimp only)
    | ((with_reducible refine Sy.is_drawn (id := 15) ?_); refine Sy.sx_regionW T F 4 rfl (.t 0 (.t 1 (.t 2 (.t 3 (.t 4 (.t 5 (.t 6 (.h 7 (.h 8 (.h 9 (.t 10 .e))))))))))) [] (by kernel_rfl) ?_; (clear F; intro w F); dsimp only)
    | ((first | refine Sy.sx_plain (h := ?_) | refine Sy.sx_guard (T := T) (h := ?_)); (first | ((with_reducible refine Sy.ux_load ?_); (first | refine Sy.sx_val (Sy.rx_loadOne T F) T rfl ?_ | refine Sy.sx_val (Sy.rx_oldOne T F) T rfl ?_ | refine Sy.sx_val (Sy.rx_loadAll T F) T rfl ?_ | (refine Sy.sx_loadCut T F (h := ?_); conv => whnf) | refine Sy.sx_val (Sy.rx_oldAgg T F) T rfl ?_ | (refine Sy.sx_oldCut T F (h := ?_); conv => whnf)); clear T; intro ac T) | ((with_reducible refine Sy.ux_build ?_); refine Sy.sx_build T (h := ?_); (conv => whnf); (repeat (refine ⟨by first | exact rfl | exact ⟨rfl, rfl⟩, ?_⟩; (conv => whnf))); clear T; intro ac T) | (refine Sy.sx_pure T (h := ?_); clear T; intro ac T)); show Sy.wpUx _ _ _ _ _ _ _ _ _)
    | ((first | refine Sy.sx_unguard (T := T) (h := ?_) | refine Sy.sx_unguardH (T := T) (h := ?_)); clear T; intro ac T)
    | (with_reducible refine Sy.sx_fork ?_ ?_)
    | (with_reducible refine Sy.sx_nil ?_)
    | (with_reducible refine Sy.sx_end ?_)
    | (with_reducible refine Sy.sx_tail rfl rfl (fun K hK => ?_))
    | ((first | refine Sy.sx_new (T := T) (F := F) (hr := Sy.new_boxAgg T rfl) (h := ?_) | refine Sy.sx_new (T := T) (F := F) (hr := Sy.new_boxOne T rfl rfl) (h := ?_) | refine Sy.sx_new (T := T) (F := F) (hr := Sy.new_alloc rfl) (h := ?_)); clear T F; intro ac g w T F)
    | ((first | refine Sy.sx_storeAll (T := T) (F := F) (h := ?_) | (refine Sy.sx_storeOne (T := T) (F := F) (h := ?_); conv => whnf) | (refine Sy.sx_storeAgg (T := T) (F := F) (h := ?_); conv => whnf)); clear T F; intro ac w T F))
    refine Sy.sx_callM0 rfl T F (hc := heardR_any F.sub h a.node hn a.keys hkeys a.f hf a.set hset) (h := ?_); (clear T F; intro v m ac w hR hS T F)
    obtain ⟨r2, rfl, hr2⟩ := hR
    replace hr1 := hr1.sub hS
    repeat (first
    | (((with_reducible refine Sy.is_guard ?_); (first | refine Sy.st_guard T (h := ?_) | (refine Sy.st_unguard T (h := ?_); clear T; intro ac T))))
    | (((with_reducible refine Sy.is_load ?_); (first | refine Sy.st_loadOne T F (h := ?_) | refine Sy.st_oldOne T F (h := ?_) | refine Sy.st_loadAll T F (h := ?_) | (refine Sy.st_loadCut T F (h := ?_); conv => whnf) | refine Sy.st_oldAgg T F (h := ?_) | (refine Sy.st_oldCut T F (h := ?_); conv => whnf)); clear T; intro ac T))
    | (((with_reducible refine Sy.is_store ?_); (first | refine Sy.st_storeAll T F (h := ?_) | (refine Sy.st_storeOne T F (h := ?_); conv => whnf) | (refine Sy.st_storeAgg T F (h := ?_); conv => whnf)); clear T F; intro ac w T F))
    | (((with_reducible refine Sy.is_box ?_); (first | refine Sy.st_boxAgg T F (h := ?_) | refine Sy.st_boxOne T F (h := ?_)); clear T F; intro ac g w T F))
    | (((with_reducible refine Sy.is_alloc ?_); refine Sy.st_alloc T F (h := ?_); clear T F; intro ac g w T F))
    | (((with_reducible refine Sy.is_build ?_); refine Sy.st_build T (h := ?_); (conv => whnf); (repeat (refine ⟨by first | exact rfl | exact ⟨rfl, rfl⟩, ?_⟩; (conv => whnf))); clear T; intro ac T))
    | (((with_reducible refine Sy.is_op ?_); refine Sy.st_pure T (h := ?_); clear T; intro ac T))
    | ((with_reducible refine Sy.atK (hK _ _ ?_)))
    | ((with_reducible refine Sy.is_cond ?_); (first | refine Sy.st_true T (h := ?_) | refine Sy.st_false T (h := ?_)))
    | (with_reducible refine wpList_nil ?_)
    | (with_reducible refine wp_region_lit ?_)
    | (with_reducible refine wp_block ?_)
    | (with_reducible refine wp_skip ?_)
    | (with_reducible refine wp_exit ?_)
    | (with_reducible refine wp_ret ?_)
    | ((with_reducible refine wp_seq_k ?_); intro _ _)
    | (go_at_K; go_step)
    | (simp only [Exit.then, Exit.inBlock, ↓reduceIte, Nat.reduceEqDiff])
    | ((with_reducible refine Sy.is_drawn (id := 10) ?_); refine Sy.sx_regionW T F 4 rfl (.t 0 (.t 1 (.t 2 (.t 3 (.t 4 (.t 5 (.t 6 (.h 7 (.h 8 (.h 9 (.t 10 .e))))))))))) [] (by kernel_rfl) ?_; (clear F; intro w F); dsimp only)
    | ((with_reducible refine Sy.is_drawn (id := 13) ?_); refine Sy.sx_regionW T F 4 rfl (.t 0 (.t 1 (.t 2 (.t 3 (.t 4 (.t 5 (.t 6 (.t 7 (.t 8 (.t 9 (.t 10 (.h 11 (.h 12 (.h 13 (.t 14 .e))))))))))))))) [] (by kernel_rfl) ?_; (clear F; intro w F); dsimp only)
    | ((with_reducible refine Sy.is_drawn (id := 15) ?_); refine Sy.sx_regionW T F 4 rfl (.t 0 (.t 1 (.t 2 (.t 3 (.t 4 (.t 5 (.t 6 (.h 7 (.h 8 (.h 9 (.t 10 .e))))))))))) [] (by kernel_rfl) ?_; (clear F; intro w F); dsimp only)
    | ((first | refine Sy.sx_plain (h := ?_) | refine Sy.sx_guard (T := T) (h := ?_)); (first | ((with_reducible refine Sy.ux_load ?_); (first | refine Sy.sx_val (Sy.rx_loadOne T F) T rfl ?_ | refine Sy.sx_val (Sy.rx_oldOne T F) T rfl ?_ | refine Sy.sx_val (Sy.rx_loadAll T F) T rfl ?_ | (refine Sy.sx_loadCut T F (h := ?_); conv => whnf) | refine Sy.sx_val (Sy.rx_oldAgg T F) T rfl ?_ | (refine Sy.sx_oldCut T F (h := ?_); conv => whnf)); clear T; intro ac T) | ((with_reducible refine Sy.ux_build ?_); refine Sy.sx_build T (h := ?_); (conv => whnf); (repeat (refine ⟨by first | exact rfl | exact ⟨rfl, rfl⟩, ?_⟩; (conv => whnf))); clear T; intro ac T) | (refine Sy.sx_pure T (h := ?_); clear T; intro ac T)); show Sy.wpUx _ _ _ _ _ _ _ _ _)
    | ((first | refine Sy.sx_unguard (T := T) (h := ?_) | refine Sy.sx_unguardH (T := T) (h := ?_)); clear T; intro ac T)
    | (with_reducible refine Sy.sx_fork ?_ ?_)
    | (with_reducible refine Sy.sx_nil ?_)
    | (with_reducible refine Sy.sx_end ?_)
    | (with_reducible refine Sy.sx_tail rfl rfl (fun K hK => ?_))
    | ((first | refine Sy.sx_new (T := T) (F := F) (hr := Sy.new_boxAgg T rfl) (h := ?_) | refine Sy.sx_new (T := T) (F := F) (hr := Sy.new_boxOne T rfl rfl) (h := ?_) | refine Sy.sx_new (T := T) (F := F) (hr := Sy.new_alloc rfl) (h := ?_)); clear T F; intro ac g w T F)
    | ((first | refine Sy.sx_storeAll (T := T) (F := F) (h := ?_) | (refine Sy.sx_storeOne (T := T) (F := F) (h := ?_); conv => whnf) | (refine Sy.sx_storeAgg (T := T) (F := F) (h := ?_); conv => whnf)); clear T F; intro ac w T F))
    refine Sy.sx_callV0 rfl T F (hc := sameM_any _ (hr1.sub F.sub) (hr2.sub F.sub)) (h := ?_); (clear T F; intro ac w T F)
    repeat (first
    | (((with_reducible refine Sy.is_guard ?_); (first | refine Sy.st_guard T (h := ?_) | (refine Sy.st_unguard T (h := ?_); clear T; intro ac T))))
    | (((with_reducible refine Sy.is_load ?_); (first | refine Sy.st_loadOne T F (h := ?_) | refine Sy.st_oldOne T F (h := ?_) | refine Sy.st_loadAll T F (h := ?_) | (refine Sy.st_loadCut T F (h := ?_); conv => whnf) | refine Sy.st_oldAgg T F (h := ?_) | (refine Sy.st_oldCut T F (h := ?_); conv => whnf)); clear T; intro ac T))
    | (((with_reducible refine Sy.is_store ?_); (first | refine Sy.st_storeAll T F (h := ?_) | (refine Sy.st_storeOne T F (h := ?_); conv => whnf) | (refine Sy.st_storeAgg T F (h := ?_); conv => whnf)); clear T F; intro ac w T F))
    | (((with_reducible refine Sy.is_box ?_); (first | refine Sy.st_boxAgg T F (h := ?_) | refine Sy.st_boxOne T F (h := ?_)); clear T F; intro ac g w T F))
    | (((with_reducible refine Sy.is_alloc ?_); refine Sy.st_alloc T F (h := ?_); clear T F; intro ac g w T F))
    | (((with_reducible refine Sy.is_build ?_); refine Sy.st_build T (h := ?_); (conv => whnf); (repeat (refine ⟨by first | exact rfl | exact ⟨rfl, rfl⟩, ?_⟩; (conv => whnf))); clear T; intro ac T))
    | (((with_reducible refine Sy.is_op ?_); refine Sy.st_pure T (h := ?_); clear T; intro ac T))
    | ((with_reducible refine Sy.atK (hK _ _ ?_)))
    | ((with_reducible refine Sy.is_cond ?_); (first | refine Sy.st_true T (h := ?_) | refine Sy.st_false T (h := ?_)))
    | (with_reducible refine wpList_nil ?_)
    | (with_reducible refine wp_region_lit ?_)
    | (with_reducible refine wp_block ?_)
    | (with_reducible refine wp_skip ?_)
    | (with_reducible refine wp_exit ?_)
    | (with_reducible refine wp_ret ?_)
    | ((with_reducible refine wp_seq_k ?_); intro _ _)
    | (go_at_K; go_step)
    | (simp only [Exit.then, Exit.inBlock, ↓reduceIte, Nat.reduceEqDiff])
    | ((with_reducible refine Sy.is_drawn (id := 10) ?_); refine Sy.sx_regionW T F 4 rfl (.t 0 (.t 1 (.t 2 (.t 3 (.t 4 (.t 5 (.t 6 (.h 7 (.h 8 (.h 9 (.t 10 .e))))))))))) [] (by kernel_rfl) ?_; (clear F; intro w F); dsimp only)
    | ((with_reducible refine Sy.is_drawn (id := 13) ?_); refine Sy.sx_regionW T F 4 rfl (.t 0 (.t 1 (.t 2 (.t 3 (.t 4 (.t 5 (.t 6 (.t 7 (.t 8 (.t 9 (.t 10 (.h 11 (.h 12 (.h 13 (.t 14 .e))))))))))))))) [] (by kernel_rfl) ?_; (clear F; intro w F); dsimp only)
    | ((with_reducible refine Sy.is_drawn (id := 15) ?_); refine Sy.sx_regionW T F 4 rfl (.t 0 (.t 1 (.t 2 (.t 3 (.t 4 (.t 5 (.t 6 (.h 7 (.h 8 (.h 9 (.t 10 .e))))))))))) [] (by kernel_rfl) ?_; (clear F; intro w F); dsimp only)
    | ((first | refine Sy.sx_plain (h := ?_) | refine Sy.sx_guard (T := T) (h := ?_)); (first | ((with_reducible refine Sy.ux_load ?_); (first | refine Sy.sx_val (Sy.rx_loadOne T F) T rfl ?_ | refine Sy.sx_val (Sy.rx_oldOne T F) T rfl ?_ | refine Sy.sx_val (Sy.rx_loadAll T F) T rfl ?_ | (refine Sy.sx_loadCut T F (h := ?_); conv => whnf) | refine Sy.sx_val (Sy.rx_oldAgg T F) T rfl ?_ | (refine Sy.sx_oldCut T F (h := ?_); conv => whnf)); clear T; intro ac T) | ((with_reducible refine Sy.ux_build ?_); refine Sy.sx_build T (h := ?_); (conv => whnf); (repeat (refine ⟨by first | exact rfl | exact ⟨rfl, rfl⟩, ?_⟩; (conv => whnf))); clear T; intro ac T) | (refine Sy.sx_pure T (h := ?_); clear T; intro ac T)); show Sy.wpUx _ _ _ _ _ _ _ _ _)
    | ((first | refine Sy.sx_unguard (T := T) (h := ?_) | refine Sy.sx_unguardH (T := T) (h := ?_)); clear T; intro ac T)
    | (with_reducible refine Sy.sx_fork ?_ ?_)
    | (with_reducible refine Sy.sx_nil ?_)
    | (with_reducible refine Sy.sx_end ?_)
    | (with_reducible refine Sy.sx_tail rfl rfl (fun K hK => ?_))
    | ((first | refine Sy.sx_new (T := T) (F := F) (hr := Sy.new_boxAgg T rfl) (h := ?_) | refine Sy.sx_new (T := T) (F := F) (hr := Sy.new_boxOne T rfl rfl) (h := ?_) | refine Sy.sx_new (T := T) (F := F) (hr := Sy.new_alloc rfl) (h := ?_)); clear T F; intro ac g w T F)
    | ((first | refine Sy.sx_storeAll (T := T) (F := F) (h := ?_) | (refine Sy.sx_storeOne (T := T) (F := F) (h := ?_); conv => whnf) | (refine Sy.sx_storeAgg (T := T) (F := F) (h := ?_); conv => whnf)); clear T F; intro ac w T F))
    ((try simp only [Exit.inBlock, Exit.then]); refine Sy.st_ret2 T F rfl (by repeat (first | exact Sy.ResV.nil | apply Sy.ResV.tmp rfl | apply Sy.ResV.row rfl rfl rfl (by repeat (first | exact Sy.Take.here | apply Sy.Take.there)) (by rfl) | apply Sy.ResV.one rfl rfl rfl (by repeat (first | exact Sy.Take.here | apply Sy.Take.there)) (by rfl))) ?_)
    exact F.retM ⟨r1, by rw [he], by rw [he]; exact hr1⟩
  · have t1 := eqF h1
    have he : actS x a = toldS x a.err := by unfold actS; rw [if_neg h0, if_neg h1]
    repeat (first
    | (((with_reducible refine Sy.is_guard ?_); (first | refine Sy.st_guard T (h := ?_) | (refine Sy.st_unguard T (h := ?_); clear T; intro ac T))))
    | (((with_reducible refine Sy.is_load ?_); (first | refine Sy.st_loadOne T F (h := ?_) | refine Sy.st_oldOne T F (h := ?_) | refine Sy.st_loadAll T F (h := ?_) | (refine Sy.st_loadCut T F (h := ?_); conv => whnf) | refine Sy.st_oldAgg T F (h := ?_) | (refine Sy.st_oldCut T F (h := ?_); conv => whnf)); clear T; intro ac T))
    | (((with_reducible refine Sy.is_store ?_); (first | refine Sy.st_storeAll T F (h := ?_) | (refine Sy.st_storeOne T F (h := ?_); conv => whnf) | (refine Sy.st_storeAgg T F (h := ?_); conv => whnf)); clear T F; intro ac w T F))
    | (((with_reducible refine Sy.is_box ?_); (first | refine Sy.st_boxAgg T F (h := ?_) | refine Sy.st_boxOne T F (h := ?_)); clear T F; intro ac g w T F))
    | (((with_reducible refine Sy.is_alloc ?_); refine Sy.st_alloc T F (h := ?_); clear T F; intro ac g w T F))
    | (((with_reducible refine Sy.is_build ?_); refine Sy.st_build T (h := ?_); (conv => whnf); (repeat (refine ⟨by first | exact rfl | exact ⟨rfl, rfl⟩, ?_⟩; (conv => whnf))); clear T; intro ac T))
    | (((with_reducible refine Sy.is_op ?_); refine Sy.st_pure T (h := ?_); clear T; intro ac T))
    | ((with_reducible refine Sy.atK (hK _ _ ?_)))
    | ((with_reducible refine Sy.is_cond ?_); (first | refine Sy.st_true T (h := ?_) | refine Sy.st_false T (h := ?_)))
    | (with_reducible refine wpList_nil ?_)
    | (with_reducible refine wp_region_lit ?_)
    | (with_reducible refine wp_block ?_)
    | (with_reducible refine wp_skip ?_)
    | (with_reducible refine wp_exit ?_)
    | (with_reducible refine wp_ret ?_)
    | ((with_reducible refine wp_seq_k ?_); intro _ _)
    | (go_at_K; go_step)
    | (simp only [Exit.then, Exit.inBlock, ↓reduceIte, Nat.reduceEqDiff])
    | ((with_reducible refine Sy.is_drawn (id := 10) ?_); refine Sy.sx_regionW T F 4 rfl (.t 0 (.t 1 (.t 2 (.t 3 (.t 4 (.t 5 (.t 6 (.h 7 (.h 8 (.h 9 (.t 10 .e))))))))))) [] (by kernel_rfl) ?_; (clear F; intro w F); dsimp only)
    | ((with_reducible refine Sy.is_drawn (id := 13) ?_); refine Sy.sx_regionW T F 4 rfl (.t 0 (.t 1 (.t 2 (.t 3 (.t 4 (.t 5 (.t 6 (.t 7 (.t 8 (.t 9 (.t 10 (.h 11 (.h 12 (.h 13 (.t 14 .e))))))))))))))) [] (by kernel_rfl) ?_; (clear F; intro w F); dsimp only)
    | ((with_reducible refine Sy.is_drawn (id := 15) ?_); refine Sy.sx_regionW T F 4 rfl (.t 0 (.t 1 (.t 2 (.t 3 (.t 4 (.t 5 (.t 6 (.h 7 (.h 8 (.h 9 (.t 10 .e))))))))))) [] (by kernel_rfl) ?_; (clear F; intro w F); dsimp only)
    | ((first | refine Sy.sx_plain (h := ?_) | refine Sy.sx_guard (T := T) (h := ?_)); (first | ((with_reducible refine Sy.ux_load ?_); (first | refine Sy.sx_val (Sy.rx_loadOne T F) T rfl ?_ | refine Sy.sx_val (Sy.rx_oldOne T F) T rfl ?_ | refine Sy.sx_val (Sy.rx_loadAll T F) T rfl ?_ | (refine Sy.sx_loadCut T F (h := ?_); conv => whnf) | refine Sy.sx_val (Sy.rx_oldAgg T F) T rfl ?_ | (refine Sy.sx_oldCut T F (h := ?_); conv => whnf)); clear T; intro ac T) | ((with_reducible refine Sy.ux_build ?_); refine Sy.sx_build T (h := ?_); (conv => whnf); (repeat (refine ⟨by first | exact rfl | exact ⟨rfl, rfl⟩, ?_⟩; (conv => whnf))); clear T; intro ac T) | (refine Sy.sx_pure T (h := ?_); clear T; intro ac T)); show Sy.wpUx _ _ _ _ _ _ _ _ _)
    | ((first | refine Sy.sx_unguard (T := T) (h := ?_) | refine Sy.sx_unguardH (T := T) (h := ?_)); clear T; intro ac T)
    | (with_reducible refine Sy.sx_fork ?_ ?_)
    | (with_reducible refine Sy.sx_nil ?_)
    | (with_reducible refine Sy.sx_end ?_)
    | (with_reducible refine Sy.sx_tail rfl rfl (fun K hK => ?_))
    | ((first | refine Sy.sx_new (T := T) (F := F) (hr := Sy.new_boxAgg T rfl) (h := ?_) | refine Sy.sx_new (T := T) (F := F) (hr := Sy.new_boxOne T rfl rfl) (h := ?_) | refine Sy.sx_new (T := T) (F := F) (hr := Sy.new_alloc rfl) (h := ?_)); clear T F; intro ac g w T F)
    | ((first | refine Sy.sx_storeAll (T := T) (F := F) (h := ?_) | (refine Sy.sx_storeOne (T := T) (F := F) (h := ?_); conv => whnf) | (refine Sy.sx_storeAgg (T := T) (F := F) (h := ?_); conv => whnf)); clear T F; intro ac w T F))
    have G := told_any F.sub hT h a.err
    unfold ansL at G
    refine Sy.st_callM0 T F (hc := G) (h := ?_); (clear T F; intro v m ac w hR hS T F)
    obtain ⟨r1, rfl, hr1⟩ := hR
    replace h := h.sub hS
    replace hT := hT.sub hS
    repeat (first
    | (((with_reducible refine Sy.is_guard ?_); (first | refine Sy.st_guard T (h := ?_) | (refine Sy.st_unguard T (h := ?_); clear T; intro ac T))))
    | (((with_reducible refine Sy.is_load ?_); (first | refine Sy.st_loadOne T F (h := ?_) | refine Sy.st_oldOne T F (h := ?_) | refine Sy.st_loadAll T F (h := ?_) | (refine Sy.st_loadCut T F (h := ?_); conv => whnf) | refine Sy.st_oldAgg T F (h := ?_) | (refine Sy.st_oldCut T F (h := ?_); conv => whnf)); clear T; intro ac T))
    | (((with_reducible refine Sy.is_store ?_); (first | refine Sy.st_storeAll T F (h := ?_) | (refine Sy.st_storeOne T F (h := ?_); conv => whnf) | (refine Sy.st_storeAgg T F (h := ?_); conv => whnf)); clear T F; intro ac w T F))
    | (((with_reducible refine Sy.is_box ?_); (first | refine Sy.st_boxAgg T F (h := ?_) | refine Sy.st_boxOne T F (h := ?_)); clear T F; intro ac g w T F))
    | (((with_reducible refine Sy.is_alloc ?_); refine Sy.st_alloc T F (h := ?_); clear T F; intro ac g w T F))
    | (((with_reducible refine Sy.is_build ?_); refine Sy.st_build T (h := ?_); (conv => whnf); (repeat (refine ⟨by first | exact rfl | exact ⟨rfl, rfl⟩, ?_⟩; (conv => whnf))); clear T; intro ac T))
    | (((with_reducible refine Sy.is_op ?_); refine Sy.st_pure T (h := ?_); clear T; intro ac T))
    | ((with_reducible refine Sy.atK (hK _ _ ?_)))
    | ((with_reducible refine Sy.is_cond ?_); (first | refine Sy.st_true T (h := ?_) | refine Sy.st_false T (h := ?_)))
    | (with_reducible refine wpList_nil ?_)
    | (with_reducible refine wp_region_lit ?_)
    | (with_reducible refine wp_block ?_)
    | (with_reducible refine wp_skip ?_)
    | (with_reducible refine wp_exit ?_)
    | (with_reducible refine wp_ret ?_)
    | ((with_reducible refine wp_seq_k ?_); intro _ _)
    | (go_at_K; go_step)
    | (simp only [Exit.then, Exit.inBlock, ↓reduceIte, Nat.reduceEqDiff])
    | ((with_reducible refine Sy.is_drawn (id := 10) ?_); refine Sy.sx_regionW T F 4 rfl (.t 0 (.t 1 (.t 2 (.t 3 (.t 4 (.t 5 (.t 6 (.h 7 (.h 8 (.h 9 (.t 10 .e))))))))))) [] (by kernel_rfl) ?_; (clear F; intro w F); dsimp only)
    | ((with_reducible refine Sy.is_drawn (id := 13) ?_); refine Sy.sx_regionW T F 4 rfl (.t 0 (.t 1 (.t 2 (.t 3 (.t 4 (.t 5 (.t 6 (.t 7 (.t 8 (.t 9 (.t 10 (.h 11 (.h 12 (.h 13 (.t 14 .e))))))))))))))) [] (by kernel_rfl) ?_; (clear F; intro w F); dsimp only)
    | ((with_reducible refine Sy.is_drawn (id := 15) ?_); refine Sy.sx_regionW T F 4 rfl (.t 0 (.t 1 (.t 2 (.t 3 (.t 4 (.t 5 (.t 6 (.h 7 (.h 8 (.h 9 (.t 10 .e))))))))))) [] (by kernel_rfl) ?_; (clear F; intro w F); dsimp only)
    | ((first | refine Sy.sx_plain (h := ?_) | refine Sy.sx_guard (T := T) (h := ?_)); (first | ((with_reducible refine Sy.ux_load ?_); (first | refine Sy.sx_val (Sy.rx_loadOne T F) T rfl ?_ | refine Sy.sx_val (Sy.rx_oldOne T F) T rfl ?_ | refine Sy.sx_val (Sy.rx_loadAll T F) T rfl ?_ | (refine Sy.sx_loadCut T F (h := ?_); conv => whnf) | refine Sy.sx_val (Sy.rx_oldAgg T F) T rfl ?_ | (refine Sy.sx_oldCut T F (h := ?_); conv => whnf)); clear T; intro ac T) | ((with_reducible refine Sy.ux_build ?_); refine Sy.sx_build T (h := ?_); (conv => whnf); (repeat (refine ⟨by first | exact rfl | exact ⟨rfl, rfl⟩, ?_⟩; (conv => whnf))); clear T; intro ac T) | (refine Sy.sx_pure T (h := ?_); clear T; intro ac T)); show Sy.wpUx _ _ _ _ _ _ _ _ _)
    | ((first | refine Sy.sx_unguard (T := T) (h := ?_) | refine Sy.sx_unguardH (T := T) (h := ?_)); clear T; intro ac T)
    | (with_reducible refine Sy.sx_fork ?_ ?_)
    | (with_reducible refine Sy.sx_nil ?_)
    | (with_reducible refine Sy.sx_end ?_)
    | (with_reducible refine Sy.sx_tail rfl rfl (fun K hK => ?_))
    | ((first | refine Sy.sx_new (T := T) (F := F) (hr := Sy.new_boxAgg T rfl) (h := ?_) | refine Sy.sx_new (T := T) (F := F) (hr := Sy.new_boxOne T rfl rfl) (h := ?_) | refine Sy.sx_new (T := T) (F := F) (hr := Sy.new_alloc rfl) (h := ?_)); clear T F; intro ac g w T F)
    | ((first | refine Sy.sx_storeAll (T := T) (F := F) (h := ?_) | (refine Sy.sx_storeOne (T := T) (F := F) (h := ?_); conv => whnf) | (refine Sy.sx_storeAgg (T := T) (F := F) (h := ?_); conv => whnf)); clear T F; intro ac w T F))
    have G := toldR_any F.sub hT h a.err
    unfold ansL at G
    refine Sy.sx_callM0 rfl T F (hc := G) (h := ?_); (clear T F; intro v m ac w hR hS T F)
    obtain ⟨r2, rfl, hr2⟩ := hR
    replace hr1 := hr1.sub hS
    repeat (first
    | (((with_reducible refine Sy.is_guard ?_); (first | refine Sy.st_guard T (h := ?_) | (refine Sy.st_unguard T (h := ?_); clear T; intro ac T))))
    | (((with_reducible refine Sy.is_load ?_); (first | refine Sy.st_loadOne T F (h := ?_) | refine Sy.st_oldOne T F (h := ?_) | refine Sy.st_loadAll T F (h := ?_) | (refine Sy.st_loadCut T F (h := ?_); conv => whnf) | refine Sy.st_oldAgg T F (h := ?_) | (refine Sy.st_oldCut T F (h := ?_); conv => whnf)); clear T; intro ac T))
    | (((with_reducible refine Sy.is_store ?_); (first | refine Sy.st_storeAll T F (h := ?_) | (refine Sy.st_storeOne T F (h := ?_); conv => whnf) | (refine Sy.st_storeAgg T F (h := ?_); conv => whnf)); clear T F; intro ac w T F))
    | (((with_reducible refine Sy.is_box ?_); (first | refine Sy.st_boxAgg T F (h := ?_) | refine Sy.st_boxOne T F (h := ?_)); clear T F; intro ac g w T F))
    | (((with_reducible refine Sy.is_alloc ?_); refine Sy.st_alloc T F (h := ?_); clear T F; intro ac g w T F))
    | (((with_reducible refine Sy.is_build ?_); refine Sy.st_build T (h := ?_); (conv => whnf); (repeat (refine ⟨by first | exact rfl | exact ⟨rfl, rfl⟩, ?_⟩; (conv => whnf))); clear T; intro ac T))
    | (((with_reducible refine Sy.is_op ?_); refine Sy.st_pure T (h := ?_); clear T; intro ac T))
    | ((with_reducible refine Sy.atK (hK _ _ ?_)))
    | ((with_reducible refine Sy.is_cond ?_); (first | refine Sy.st_true T (h := ?_) | refine Sy.st_false T (h := ?_)))
    | (with_reducible refine wpList_nil ?_)
    | (with_reducible refine wp_region_lit ?_)
    | (with_reducible refine wp_block ?_)
    | (with_reducible refine wp_skip ?_)
    | (with_reducible refine wp_exit ?_)
    | (with_reducible refine wp_ret ?_)
    | ((with_reducible refine wp_seq_k ?_); intro _ _)
    | (go_at_K; go_step)
    | (simp only [Exit.then, Exit.inBlock, ↓reduceIte, Nat.reduceEqDiff])
    | ((with_reducible refine Sy.is_drawn (id := 10) ?_); refine Sy.sx_regionW T F 4 rfl (.t 0 (.t 1 (.t 2 (.t 3 (.t 4 (.t 5 (.t 6 (.h 7 (.h 8 (.h 9 (.t 10 .e))))))))))) [] (by kernel_rfl) ?_; (clear F; intro w F); dsimp only)
    | ((with_reducible refine Sy.is_drawn (id := 13) ?_); refine Sy.sx_regionW T F 4 rfl (.t 0 (.t 1 (.t 2 (.t 3 (.t 4 (.t 5 (.t 6 (.t 7 (.t 8 (.t 9 (.t 10 (.h 11 (.h 12 (.h 13 (.t 14 .e))))))))))))))) [] (by kernel_rfl) ?_; (clear F; intro w F); dsimp only)
    | ((with_reducible refine Sy.is_drawn (id := 15) ?_); refine Sy.sx_regionW T F 4 rfl (.t 0 (.t 1 (.t 2 (.t 3 (.t 4 (.t 5 (.t 6 (.h 7 (.h 8 (.h 9 (.t 10 .e))))))))))) [] (by kernel_rfl) ?_; (clear F; intro w F); dsimp only)
    | ((first | refine Sy.sx_plain (h := ?_) | refine Sy.sx_guard (T := T) (h := ?_)); (first | ((with_reducible refine Sy.ux_load ?_); (first | refine Sy.sx_val (Sy.rx_loadOne T F) T rfl ?_ | refine Sy.sx_val (Sy.rx_oldOne T F) T rfl ?_ | refine Sy.sx_val (Sy.rx_loadAll T F) T rfl ?_ | (refine Sy.sx_loadCut T F (h := ?_); conv => whnf) | refine Sy.sx_val (Sy.rx_oldAgg T F) T rfl ?_ | (refine Sy.sx_oldCut T F (h := ?_); conv => whnf)); clear T; intro ac T) | ((with_reducible refine Sy.ux_build ?_); refine Sy.sx_build T (h := ?_); (conv => whnf); (repeat (refine ⟨by first | exact rfl | exact ⟨rfl, rfl⟩, ?_⟩; (conv => whnf))); clear T; intro ac T) | (refine Sy.sx_pure T (h := ?_); clear T; intro ac T)); show Sy.wpUx _ _ _ _ _ _ _ _ _)
    | ((first | refine Sy.sx_unguard (T := T) (h := ?_) | refine Sy.sx_unguardH (T := T) (h := ?_)); clear T; intro ac T)
    | (with_reducible refine Sy.sx_fork ?_ ?_)
    | (with_reducible refine Sy.sx_nil ?_)
    | (with_reducible refine Sy.sx_end ?_)
    | (with_reducible refine Sy.sx_tail rfl rfl (fun K hK => ?_))
    | ((first | refine Sy.sx_new (T := T) (F := F) (hr := Sy.new_boxAgg T rfl) (h := ?_) | refine Sy.sx_new (T := T) (F := F) (hr := Sy.new_boxOne T rfl rfl) (h := ?_) | refine Sy.sx_new (T := T) (F := F) (hr := Sy.new_alloc rfl) (h := ?_)); clear T F; intro ac g w T F)
    | ((first | refine Sy.sx_storeAll (T := T) (F := F) (h := ?_) | (refine Sy.sx_storeOne (T := T) (F := F) (h := ?_); conv => whnf) | (refine Sy.sx_storeAgg (T := T) (F := F) (h := ?_); conv => whnf)); clear T F; intro ac w T F))
    refine Sy.sx_callV0 rfl T F (hc := sameM_any _ (hr1.sub F.sub) (hr2.sub F.sub)) (h := ?_); (clear T F; intro ac w T F)
    repeat (first
    | (((with_reducible refine Sy.is_guard ?_); (first | refine Sy.st_guard T (h := ?_) | (refine Sy.st_unguard T (h := ?_); clear T; intro ac T))))
    | (((with_reducible refine Sy.is_load ?_); (first | refine Sy.st_loadOne T F (h := ?_) | refine Sy.st_oldOne T F (h := ?_) | refine Sy.st_loadAll T F (h := ?_) | (refine Sy.st_loadCut T F (h := ?_); conv => whnf) | refine Sy.st_oldAgg T F (h := ?_) | (refine Sy.st_oldCut T F (h := ?_); conv => whnf)); clear T; intro ac T))
    | (((with_reducible refine Sy.is_store ?_); (first | refine Sy.st_storeAll T F (h := ?_) | (refine Sy.st_storeOne T F (h := ?_); conv => whnf) | (refine Sy.st_storeAgg T F (h := ?_); conv => whnf)); clear T F; intro ac w T F))
    | (((with_reducible refine Sy.is_box ?_); (first | refine Sy.st_boxAgg T F (h := ?_) | refine Sy.st_boxOne T F (h := ?_)); clear T F; intro ac g w T F))
    | (((with_reducible refine Sy.is_alloc ?_); refine Sy.st_alloc T F (h := ?_); clear T F; intro ac g w T F))
    | (((with_reducible refine Sy.is_build ?_); refine Sy.st_build T (h := ?_); (conv => whnf); (repeat (refine ⟨by first | exact rfl | exact ⟨rfl, rfl⟩, ?_⟩; (conv => whnf))); clear T; intro ac T))
    | (((with_reducible refine Sy.is_op ?_); refine Sy.st_pure T (h := ?_); clear T; intro ac T))
    | ((with_reducible refine Sy.atK (hK _ _ ?_)))
    | ((with_reducible refine Sy.is_cond ?_); (first | refine Sy.st_true T (h := ?_) | refine Sy.st_false T (h := ?_)))
    | (with_reducible refine wpList_nil ?_)
    | (with_reducible refine wp_region_lit ?_)
    | (with_reducible refine wp_block ?_)
    | (with_reducible refine wp_skip ?_)
    | (with_reducible refine wp_exit ?_)
    | (with_reducible refine wp_ret ?_)
    | ((with_reducible refine wp_seq_k ?_); intro _ _)
    | (go_at_K; go_step)
    | (simp only [Exit.then, Exit.inBlock, ↓reduceIte, Nat.reduceEqDiff])
    | ((with_reducible refine Sy.is_drawn (id := 10) ?_); refine Sy.sx_regionW T F 4 rfl (.t 0 (.t 1 (.t 2 (.t 3 (.t 4 (.t 5 (.t 6 (.h 7 (.h 8 (.h 9 (.t 10 .e))))))))))) [] (by kernel_rfl) ?_; (clear F; intro w F); dsimp only)
    | ((with_reducible refine Sy.is_drawn (id := 13) ?_); refine Sy.sx_regionW T F 4 rfl (.t 0 (.t 1 (.t 2 (.t 3 (.t 4 (.t 5 (.t 6 (.t 7 (.t 8 (.t 9 (.t 10 (.h 11 (.h 12 (.h 13 (.t 14 .e))))))))))))))) [] (by kernel_rfl) ?_; (clear F; intro w F); dsimp only)
    | ((with_reducible refine Sy.is_drawn (id := 15) ?_); refine Sy.sx_regionW T F 4 rfl (.t 0 (.t 1 (.t 2 (.t 3 (.t 4 (.t 5 (.t 6 (.h 7 (.h 8 (.h 9 (.t 10 .e))))))))))) [] (by kernel_rfl) ?_; (clear F; intro w F); dsimp only)
    | ((first | refine Sy.sx_plain (h := ?_) | refine Sy.sx_guard (T := T) (h := ?_)); (first | ((with_reducible refine Sy.ux_load ?_); (first | refine Sy.sx_val (Sy.rx_loadOne T F) T rfl ?_ | refine Sy.sx_val (Sy.rx_oldOne T F) T rfl ?_ | refine Sy.sx_val (Sy.rx_loadAll T F) T rfl ?_ | (refine Sy.sx_loadCut T F (h := ?_); conv => whnf) | refine Sy.sx_val (Sy.rx_oldAgg T F) T rfl ?_ | (refine Sy.sx_oldCut T F (h := ?_); conv => whnf)); clear T; intro ac T) | ((with_reducible refine Sy.ux_build ?_); refine Sy.sx_build T (h := ?_); (conv => whnf); (repeat (refine ⟨by first | exact rfl | exact ⟨rfl, rfl⟩, ?_⟩; (conv => whnf))); clear T; intro ac T) | (refine Sy.sx_pure T (h := ?_); clear T; intro ac T)); show Sy.wpUx _ _ _ _ _ _ _ _ _)
    | ((first | refine Sy.sx_unguard (T := T) (h := ?_) | refine Sy.sx_unguardH (T := T) (h := ?_)); clear T; intro ac T)
    | (with_reducible refine Sy.sx_fork ?_ ?_)
    | (with_reducible refine Sy.sx_nil ?_)
    | (with_reducible refine Sy.sx_end ?_)
    | (with_reducible refine Sy.sx_tail rfl rfl (fun K hK => ?_))
    | ((first | refine Sy.sx_new (T := T) (F := F) (hr := Sy.new_boxAgg T rfl) (h := ?_) | refine Sy.sx_new (T := T) (F := F) (hr := Sy.new_boxOne T rfl rfl) (h := ?_) | refine Sy.sx_new (T := T) (F := F) (hr := Sy.new_alloc rfl) (h := ?_)); clear T F; intro ac g w T F)
    | ((first | refine Sy.sx_storeAll (T := T) (F := F) (h := ?_) | (refine Sy.sx_storeOne (T := T) (F := F) (h := ?_); conv => whnf) | (refine Sy.sx_storeAgg (T := T) (F := F) (h := ?_); conv => whnf)); clear T F; intro ac w T F))
    ((try simp only [Exit.inBlock, Exit.then]); refine Sy.st_ret2 T F rfl (by repeat (first | exact Sy.ResV.nil | apply Sy.ResV.tmp rfl | apply Sy.ResV.row rfl rfl rfl (by repeat (first | exact Sy.Take.here | apply Sy.Take.there)) (by rfl) | apply Sy.ResV.one rfl rfl rfl (by repeat (first | exact Sy.Take.here | apply Sy.Take.there)) (by rfl))) ?_)
    exact F.retM ⟨r1, by rw [he], by rw [he]; exact hr1⟩
set_option maxRecDepth 20000 in
set_option maxHeartbeats 3000000 in
theorem plays_any (W0 : World) (hT : Tabs W0) {c : ConfD} {p : ConfA} (hc : ConfAt W0 c p) (node : Nat) (hn : node < 256) (a : Option Addr) (cap : Nat) (l : List ActD) (h : Rows ActR 6 W0 a l) :
    Calls Tryd.prog 3 #[.agg (confCs c p).toArray, .int .u8 (node : Int), .slice a l.length cap] W0 (RetV W0 (.bool true)) := by
  have F := Sy.Mem.start (Sub.refl W0)
  have hml := h.1
  have G1 := fun w' => great_any w' c p
  cases hg : greatC c
  case true =>
    rw [hg] at G1
    refine Sy.enter Tryd.func3 rfl Tryd.ntmps3 rfl ?_; intro ac T; simp only [Sy.enum, Nat.zero_add, Nat.reduceAdd] at T
    repeat (first
    | (((with_reducible refine Sy.is_guard ?_); (first | refine Sy.st_guard T (h := ?_) | (refine Sy.st_unguard T (h := ?_); clear T; intro ac T))))
    | (((with_reducible refine Sy.is_load ?_); (first | refine Sy.st_loadOne T F (h := ?_) | refine Sy.st_oldOne T F (h := ?_) | refine Sy.st_loadAll T F (h := ?_) | (refine Sy.st_loadCut T F (h := ?_); conv => whnf) | refine Sy.st_oldAgg T F (h := ?_) | (refine Sy.st_oldCut T F (h := ?_); conv => whnf)); clear T; intro ac T))
    | (((with_reducible refine Sy.is_store ?_); (first | refine Sy.st_storeAll T F (h := ?_) | (refine Sy.st_storeOne T F (h := ?_); conv => whnf) | (refine Sy.st_storeAgg T F (h := ?_); conv => whnf)); clear T F; intro ac w T F))
    | (((with_reducible refine Sy.is_box ?_); (first | refine Sy.st_boxAgg T F (h := ?_) | refine Sy.st_boxOne T F (h := ?_)); clear T F; intro ac g w T F))
    | (((with_reducible refine Sy.is_alloc ?_); refine Sy.st_alloc T F (h := ?_); clear T F; intro ac g w T F))
    | (((with_reducible refine Sy.is_op ?_); refine Sy.st_pure T (h := ?_); clear T; intro ac T))
    | ((with_reducible refine Sy.atK (hK _ _ ?_)))
    | ((with_reducible refine Sy.is_cond ?_); (first | refine Sy.st_true T (h := ?_) | refine Sy.st_false T (h := ?_)))
    | (with_reducible refine wpList_nil ?_)
    | (with_reducible refine wp_region_lit ?_)
    | (with_reducible refine wp_block ?_)
    | (with_reducible refine wp_skip ?_)
    | (with_reducible refine wp_exit ?_)
    | (with_reducible refine wp_ret ?_)
    | ((with_reducible refine wp_seq_k ?_); intro _ _)
    | (go_at_K; go_step)
    | (simp only [Exit.then, Exit.inBlock, ↓reduceIte, Nat.reduceEqDiff])
    | ((with_reducible refine Sy.is_drawn (id := 10) ?_); refine Sy.sx_region F [] (.t 0 (.t 1 (.t 2 (.t 3 (.t 4 (.f 5 (.t 6 (.t 7 (.t 8 (.h 9 (.h 10 (.t 11 .e)))))) 9 (.h 5 (.t 6 (.t 7 (.t 8 (.h 10 (.t 11 .e)))))))))))) [] (by kernel_rfl) ?_; (clear F; intro w F))
    | ((first | refine Sy.sx_newX (i := 9) (T := T) (F := F) (hr := Sy.new_boxAgg T rfl) (h := ?_) | refine Sy.sx_newX (i := 9) (T := T) (F := F) (hr := Sy.new_boxOne T rfl rfl) (h := ?_) | refine Sy.sx_newX (i := 9) (T := T) (F := F) (hr := Sy.new_alloc rfl) (h := ?_)); clear T F; intro ac g w T F)
    | ((first | refine Sy.sx_plain (h := ?_) | refine Sy.sx_guard (T := T) (h := ?_)); (first | ((with_reducible refine Sy.ux_load ?_); (first | refine Sy.sx_val (Sy.rx_loadOne T F) T rfl ?_ | refine Sy.sx_val (Sy.rx_oldOne T F) T rfl ?_ | refine Sy.sx_val (Sy.rx_loadAll T F) T rfl ?_ | (refine Sy.sx_loadCut T F (h := ?_); conv => whnf) | refine Sy.sx_val (Sy.rx_oldAgg T F) T rfl ?_ | (refine Sy.sx_oldCut T F (h := ?_); conv => whnf)); clear T; intro ac T) | (refine Sy.sx_pure T (h := ?_); clear T; intro ac T)); show Sy.wpUx _ _ _ _ _ _ _ _ _)
    | ((first | refine Sy.sx_unguard (T := T) (h := ?_) | refine Sy.sx_unguardH (T := T) (h := ?_)); clear T; intro ac T)
    | (with_reducible refine Sy.sx_fork ?_ ?_)
    | (with_reducible refine Sy.sx_nil ?_)
    | (with_reducible refine Sy.sx_end ?_)
    | (with_reducible refine Sy.sx_tail rfl rfl (fun K hK => ?_))
    | ((first | refine Sy.sx_new (T := T) (F := F) (hr := Sy.new_boxAgg T rfl) (h := ?_) | refine Sy.sx_new (T := T) (F := F) (hr := Sy.new_boxOne T rfl rfl) (h := ?_) | refine Sy.sx_new (T := T) (F := F) (hr := Sy.new_alloc rfl) (h := ?_)); clear T F; intro ac g w T F)
    | ((first | refine Sy.sx_storeAll (T := T) (F := F) (h := ?_) | (refine Sy.sx_storeOne (T := T) (F := F) (h := ?_); conv => whnf) | (refine Sy.sx_storeAgg (T := T) (F := F) (h := ?_); conv => whnf)); clear T F; intro ac w T F))
    refine Sy.st_callV0 T F (hc := G1 _) (h := ?_); (clear T F; intro ac w T F)
    repeat (first
    | (((with_reducible refine Sy.is_guard ?_); (first | refine Sy.st_guard T (h := ?_) | (refine Sy.st_unguard T (h := ?_); clear T; intro ac T))))
    | (((with_reducible refine Sy.is_load ?_); (first | refine Sy.st_loadOne T F (h := ?_) | refine Sy.st_oldOne T F (h := ?_) | refine Sy.st_loadAll T F (h := ?_) | (refine Sy.st_loadCut T F (h := ?_); conv => whnf) | refine Sy.st_oldAgg T F (h := ?_) | (refine Sy.st_oldCut T F (h := ?_); conv => whnf)); clear T; intro ac T))
    | (((with_reducible refine Sy.is_store ?_); (first | refine Sy.st_storeAll T F (h := ?_) | (refine Sy.st_storeOne T F (h := ?_); conv => whnf) | (refine Sy.st_storeAgg T F (h := ?_); conv => whnf)); clear T F; intro ac w T F))
    | (((with_reducible refine Sy.is_box ?_); (first | refine Sy.st_boxAgg T F (h := ?_) | refine Sy.st_boxOne T F (h := ?_)); clear T F; intro ac g w T F))
    | (((with_reducible refine Sy.is_alloc ?_); refine Sy.st_alloc T F (h := ?_); clear T F; intro ac g w T F))
    | (((with_reducible refine Sy.is_op ?_); refine Sy.st_pure T (h := ?_); clear T; intro ac T))
    | ((with_reducible refine Sy.atK (hK _ _ ?_)))
    | ((with_reducible refine Sy.is_cond ?_); (first | refine Sy.st_true T (h := ?_) | refine Sy.st_false T (h := ?_)))
    | (with_reducible refine wpList_nil ?_)
    | (with_reducible refine wp_region_lit ?_)
    | (with_reducible refine wp_block ?_)
    | (with_reducible refine wp_skip ?_)
    | (with_reducible refine wp_exit ?_)
    | (with_reducible refine wp_ret ?_)
    | ((with_reducible refine wp_seq_k ?_); intro _ _)
    | (go_at_K; go_step)
    | (simp only [Exit.then, Exit.inBlock, ↓reduceIte, Nat.reduceEqDiff])
    | ((with_reducible refine Sy.is_drawn (id := 10) ?_); refine Sy.sx_region F [] (.t 0 (.t 1 (.t 2 (.t 3 (.t 4 (.f 5 (.t 6 (.t 7 (.t 8 (.h 9 (.h 10 (.t 11 .e)))))) 9 (.h 5 (.t 6 (.t 7 (.t 8 (.h 10 (.t 11 .e)))))))))))) [] (by kernel_rfl) ?_; (clear F; intro w F))
    | ((first | refine Sy.sx_newX (i := 9) (T := T) (F := F) (hr := Sy.new_boxAgg T rfl) (h := ?_) | refine Sy.sx_newX (i := 9) (T := T) (F := F) (hr := Sy.new_boxOne T rfl rfl) (h := ?_) | refine Sy.sx_newX (i := 9) (T := T) (F := F) (hr := Sy.new_alloc rfl) (h := ?_)); clear T F; intro ac g w T F)
    | ((first | refine Sy.sx_plain (h := ?_) | refine Sy.sx_guard (T := T) (h := ?_)); (first | ((with_reducible refine Sy.ux_load ?_); (first | refine Sy.sx_val (Sy.rx_loadOne T F) T rfl ?_ | refine Sy.sx_val (Sy.rx_oldOne T F) T rfl ?_ | refine Sy.sx_val (Sy.rx_loadAll T F) T rfl ?_ | (refine Sy.sx_loadCut T F (h := ?_); conv => whnf) | refine Sy.sx_val (Sy.rx_oldAgg T F) T rfl ?_ | (refine Sy.sx_oldCut T F (h := ?_); conv => whnf)); clear T; intro ac T) | (refine Sy.sx_pure T (h := ?_); clear T; intro ac T)); show Sy.wpUx _ _ _ _ _ _ _ _ _)
    | ((first | refine Sy.sx_unguard (T := T) (h := ?_) | refine Sy.sx_unguardH (T := T) (h := ?_)); clear T; intro ac T)
    | (with_reducible refine Sy.sx_fork ?_ ?_)
    | (with_reducible refine Sy.sx_nil ?_)
    | (with_reducible refine Sy.sx_end ?_)
    | (with_reducible refine Sy.sx_tail rfl rfl (fun K hK => ?_))
    | ((first | refine Sy.sx_new (T := T) (F := F) (hr := Sy.new_boxAgg T rfl) (h := ?_) | refine Sy.sx_new (T := T) (F := F) (hr := Sy.new_boxOne T rfl rfl) (h := ?_) | refine Sy.sx_new (T := T) (F := F) (hr := Sy.new_alloc rfl) (h := ?_)); clear T F; intro ac g w T F)
    | ((first | refine Sy.sx_storeAll (T := T) (F := F) (h := ?_) | (refine Sy.sx_storeOne (T := T) (F := F) (h := ?_); conv => whnf) | (refine Sy.sx_storeAgg (T := T) (F := F) (h := ?_); conv => whnf)); clear T F; intro ac w T F))
    refine Sy.st_callV0 T F (hc := awake_any _) (h := ?_); (clear T F; intro ac w T F)
    repeat (first
    | (((with_reducible refine Sy.is_guard ?_); (first | refine Sy.st_guard T (h := ?_) | (refine Sy.st_unguard T (h := ?_); clear T; intro ac T))))
    | (((with_reducible refine Sy.is_load ?_); (first | refine Sy.st_loadOne T F (h := ?_) | refine Sy.st_oldOne T F (h := ?_) | refine Sy.st_loadAll T F (h := ?_) | (refine Sy.st_loadCut T F (h := ?_); conv => whnf) | refine Sy.st_oldAgg T F (h := ?_) | (refine Sy.st_oldCut T F (h := ?_); conv => whnf)); clear T; intro ac T))
    | (((with_reducible refine Sy.is_store ?_); (first | refine Sy.st_storeAll T F (h := ?_) | (refine Sy.st_storeOne T F (h := ?_); conv => whnf) | (refine Sy.st_storeAgg T F (h := ?_); conv => whnf)); clear T F; intro ac w T F))
    | (((with_reducible refine Sy.is_box ?_); (first | refine Sy.st_boxAgg T F (h := ?_) | refine Sy.st_boxOne T F (h := ?_)); clear T F; intro ac g w T F))
    | (((with_reducible refine Sy.is_alloc ?_); refine Sy.st_alloc T F (h := ?_); clear T F; intro ac g w T F))
    | (((with_reducible refine Sy.is_op ?_); refine Sy.st_pure T (h := ?_); clear T; intro ac T))
    | ((with_reducible refine Sy.atK (hK _ _ ?_)))
    | ((with_reducible refine Sy.is_cond ?_); (first | refine Sy.st_true T (h := ?_) | refine Sy.st_false T (h := ?_)))
    | (with_reducible refine wpList_nil ?_)
    | (with_reducible refine wp_region_lit ?_)
    | (with_reducible refine wp_block ?_)
    | (with_reducible refine wp_skip ?_)
    | (with_reducible refine wp_exit ?_)
    | (with_reducible refine wp_ret ?_)
    | ((with_reducible refine wp_seq_k ?_); intro _ _)
    | (go_at_K; go_step)
    | (simp only [Exit.then, Exit.inBlock, ↓reduceIte, Nat.reduceEqDiff])
    | ((with_reducible refine Sy.is_drawn (id := 10) ?_); refine Sy.sx_region F [] (.t 0 (.t 1 (.t 2 (.t 3 (.t 4 (.f 5 (.t 6 (.t 7 (.t 8 (.h 9 (.h 10 (.t 11 .e)))))) 9 (.h 5 (.t 6 (.t 7 (.t 8 (.h 10 (.t 11 .e)))))))))))) [] (by kernel_rfl) ?_; (clear F; intro w F))
    | ((first | refine Sy.sx_newX (i := 9) (T := T) (F := F) (hr := Sy.new_boxAgg T rfl) (h := ?_) | refine Sy.sx_newX (i := 9) (T := T) (F := F) (hr := Sy.new_boxOne T rfl rfl) (h := ?_) | refine Sy.sx_newX (i := 9) (T := T) (F := F) (hr := Sy.new_alloc rfl) (h := ?_)); clear T F; intro ac g w T F)
    | ((first | refine Sy.sx_plain (h := ?_) | refine Sy.sx_guard (T := T) (h := ?_)); (first | ((with_reducible refine Sy.ux_load ?_); (first | refine Sy.sx_val (Sy.rx_loadOne T F) T rfl ?_ | refine Sy.sx_val (Sy.rx_oldOne T F) T rfl ?_ | refine Sy.sx_val (Sy.rx_loadAll T F) T rfl ?_ | (refine Sy.sx_loadCut T F (h := ?_); conv => whnf) | refine Sy.sx_val (Sy.rx_oldAgg T F) T rfl ?_ | (refine Sy.sx_oldCut T F (h := ?_); conv => whnf)); clear T; intro ac T) | (refine Sy.sx_pure T (h := ?_); clear T; intro ac T)); show Sy.wpUx _ _ _ _ _ _ _ _ _)
    | ((first | refine Sy.sx_unguard (T := T) (h := ?_) | refine Sy.sx_unguardH (T := T) (h := ?_)); clear T; intro ac T)
    | (with_reducible refine Sy.sx_fork ?_ ?_)
    | (with_reducible refine Sy.sx_nil ?_)
    | (with_reducible refine Sy.sx_end ?_)
    | (with_reducible refine Sy.sx_tail rfl rfl (fun K hK => ?_))
    | ((first | refine Sy.sx_new (T := T) (F := F) (hr := Sy.new_boxAgg T rfl) (h := ?_) | refine Sy.sx_new (T := T) (F := F) (hr := Sy.new_boxOne T rfl rfl) (h := ?_) | refine Sy.sx_new (T := T) (F := F) (hr := Sy.new_alloc rfl) (h := ?_)); clear T F; intro ac g w T F)
    | ((first | refine Sy.sx_storeAll (T := T) (F := F) (h := ?_) | (refine Sy.sx_storeOne (T := T) (F := F) (h := ?_); conv => whnf) | (refine Sy.sx_storeAgg (T := T) (F := F) (h := ?_); conv => whnf)); clear T F; intro ac w T F))
    ((try simp only [Exit.inBlock, Exit.then]); refine Sy.st_ret1 T F rfl (by repeat (first | exact Sy.ResV.nil | apply Sy.ResV.tmp rfl | apply Sy.ResV.row rfl rfl rfl (by repeat (first | exact Sy.Take.here | apply Sy.Take.there)) (by rfl) | apply Sy.ResV.one rfl rfl rfl (by repeat (first | exact Sy.Take.here | apply Sy.Take.there)) (by rfl))) ?_)
    exact F.retV _
  rw [hg] at G1
  by_cases hl : 60 < l.length
  · have v1 : decide ((l.length : Int) > 60) = true := decide_eq_true (by omega)
    refine Sy.enter Tryd.func3 rfl Tryd.ntmps3 rfl ?_; intro ac T; simp only [Sy.enum, Nat.zero_add, Nat.reduceAdd] at T
    repeat (first
    | (((with_reducible refine Sy.is_guard ?_); (first | refine Sy.st_guard T (h := ?_) | (refine Sy.st_unguard T (h := ?_); clear T; intro ac T))))
    | (((with_reducible refine Sy.is_load ?_); (first | refine Sy.st_loadOne T F (h := ?_) | refine Sy.st_oldOne T F (h := ?_) | refine Sy.st_loadAll T F (h := ?_) | (refine Sy.st_loadCut T F (h := ?_); conv => whnf) | refine Sy.st_oldAgg T F (h := ?_) | (refine Sy.st_oldCut T F (h := ?_); conv => whnf)); clear T; intro ac T))
    | (((with_reducible refine Sy.is_store ?_); (first | refine Sy.st_storeAll T F (h := ?_) | (refine Sy.st_storeOne T F (h := ?_); conv => whnf) | (refine Sy.st_storeAgg T F (h := ?_); conv => whnf)); clear T F; intro ac w T F))
    | (((with_reducible refine Sy.is_box ?_); (first | refine Sy.st_boxAgg T F (h := ?_) | refine Sy.st_boxOne T F (h := ?_)); clear T F; intro ac g w T F))
    | (((with_reducible refine Sy.is_alloc ?_); refine Sy.st_alloc T F (h := ?_); clear T F; intro ac g w T F))
    | (((with_reducible refine Sy.is_op ?_); refine Sy.st_pure T (h := ?_); clear T; intro ac T))
    | ((with_reducible refine Sy.atK (hK _ _ ?_)))
    | ((with_reducible refine Sy.is_cond ?_); (first | refine Sy.st_true T (h := ?_) | refine Sy.st_false T (h := ?_)))
    | (with_reducible refine wpList_nil ?_)
    | (with_reducible refine wp_region_lit ?_)
    | (with_reducible refine wp_block ?_)
    | (with_reducible refine wp_skip ?_)
    | (with_reducible refine wp_exit ?_)
    | (with_reducible refine wp_ret ?_)
    | ((with_reducible refine wp_seq_k ?_); intro _ _)
    | (go_at_K; go_step)
    | (simp only [Exit.then, Exit.inBlock, ↓reduceIte, Nat.reduceEqDiff])
    | ((with_reducible refine Sy.is_drawn (id := 10) ?_); refine Sy.sx_region F [] (.t 0 (.t 1 (.t 2 (.t 3 (.t 4 (.f 5 (.t 6 (.t 7 (.t 8 (.h 9 (.h 10 (.t 11 .e)))))) 9 (.h 5 (.t 6 (.t 7 (.t 8 (.h 10 (.t 11 .e)))))))))))) [] (by kernel_rfl) ?_; (clear F; intro w F))
    | ((first | refine Sy.sx_newX (i := 9) (T := T) (F := F) (hr := Sy.new_boxAgg T rfl) (h := ?_) | refine Sy.sx_newX (i := 9) (T := T) (F := F) (hr := Sy.new_boxOne T rfl rfl) (h := ?_) | refine Sy.sx_newX (i := 9) (T := T) (F := F) (hr := Sy.new_alloc rfl) (h := ?_)); clear T F; intro ac g w T F)
    | ((first | refine Sy.sx_plain (h := ?_) | refine Sy.sx_guard (T := T) (h := ?_)); (first | ((with_reducible refine Sy.ux_load ?_); (first | refine Sy.sx_val (Sy.rx_loadOne T F) T rfl ?_ | refine Sy.sx_val (Sy.rx_oldOne T F) T rfl ?_ | refine Sy.sx_val (Sy.rx_loadAll T F) T rfl ?_ | (refine Sy.sx_loadCut T F (h := ?_); conv => whnf) | refine Sy.sx_val (Sy.rx_oldAgg T F) T rfl ?_ | (refine Sy.sx_oldCut T F (h := ?_); conv => whnf)); clear T; intro ac T) | (refine Sy.sx_pure T (h := ?_); clear T; intro ac T)); show Sy.wpUx _ _ _ _ _ _ _ _ _)
    | ((first | refine Sy.sx_unguard (T := T) (h := ?_) | refine Sy.sx_unguardH (T := T) (h := ?_)); clear T; intro ac T)
    | (with_reducible refine Sy.sx_fork ?_ ?_)
    | (with_reducible refine Sy.sx_nil ?_)
    | (with_reducible refine Sy.sx_end ?_)
    | (with_reducible refine Sy.sx_tail rfl rfl (fun K hK => ?_))
    | ((first | refine Sy.sx_new (T := T) (F := F) (hr := Sy.new_boxAgg T rfl) (h := ?_) | refine Sy.sx_new (T := T) (F := F) (hr := Sy.new_boxOne T rfl rfl) (h := ?_) | refine Sy.sx_new (T := T) (F := F) (hr := Sy.new_alloc rfl) (h := ?_)); clear T F; intro ac g w T F)
    | ((first | refine Sy.sx_storeAll (T := T) (F := F) (h := ?_) | (refine Sy.sx_storeOne (T := T) (F := F) (h := ?_); conv => whnf) | (refine Sy.sx_storeAgg (T := T) (F := F) (h := ?_); conv => whnf)); clear T F; intro ac w T F))
    refine Sy.st_callV0 T F (hc := G1 _) (h := ?_); (clear T F; intro ac w T F)
    repeat (first
    | (((with_reducible refine Sy.is_guard ?_); (first | refine Sy.st_guard T (h := ?_) | (refine Sy.st_unguard T (h := ?_); clear T; intro ac T))))
    | (((with_reducible refine Sy.is_load ?_); (first | refine Sy.st_loadOne T F (h := ?_) | refine Sy.st_oldOne T F (h := ?_) | refine Sy.st_loadAll T F (h := ?_) | (refine Sy.st_loadCut T F (h := ?_); conv => whnf) | refine Sy.st_oldAgg T F (h := ?_) | (refine Sy.st_oldCut T F (h := ?_); conv => whnf)); clear T; intro ac T))
    | (((with_reducible refine Sy.is_store ?_); (first | refine Sy.st_storeAll T F (h := ?_) | (refine Sy.st_storeOne T F (h := ?_); conv => whnf) | (refine Sy.st_storeAgg T F (h := ?_); conv => whnf)); clear T F; intro ac w T F))
    | (((with_reducible refine Sy.is_box ?_); (first | refine Sy.st_boxAgg T F (h := ?_) | refine Sy.st_boxOne T F (h := ?_)); clear T F; intro ac g w T F))
    | (((with_reducible refine Sy.is_alloc ?_); refine Sy.st_alloc T F (h := ?_); clear T F; intro ac g w T F))
    | (((with_reducible refine Sy.is_op ?_); refine Sy.st_pure T (h := ?_); clear T; intro ac T))
    | ((with_reducible refine Sy.atK (hK _ _ ?_)))
    | ((with_reducible refine Sy.is_cond ?_); (first | refine Sy.st_true T (h := ?_) | refine Sy.st_false T (h := ?_)))
    | (with_reducible refine wpList_nil ?_)
    | (with_reducible refine wp_region_lit ?_)
    | (with_reducible refine wp_block ?_)
    | (with_reducible refine wp_skip ?_)
    | (with_reducible refine wp_exit ?_)
    | (with_reducible refine wp_ret ?_)
    | ((with_reducible refine wp_seq_k ?_); intro _ _)
    | (go_at_K; go_step)
    | (simp only [Exit.then, Exit.inBlock, ↓reduceIte, Nat.reduceEqDiff])
    | ((with_reducible refine Sy.is_drawn (id := 10) ?_); refine Sy.sx_region F [] (.t 0 (.t 1 (.t 2 (.t 3 (.t 4 (.f 5 (.t 6 (.t 7 (.t 8 (.h 9 (.h 10 (.t 11 .e)))))) 9 (.h 5 (.t 6 (.t 7 (.t 8 (.h 10 (.t 11 .e)))))))))))) [] (by kernel_rfl) ?_; (clear F; intro w F))
    | ((first | refine Sy.sx_newX (i := 9) (T := T) (F := F) (hr := Sy.new_boxAgg T rfl) (h := ?_) | refine Sy.sx_newX (i := 9) (T := T) (F := F) (hr := Sy.new_boxOne T rfl rfl) (h := ?_) | refine Sy.sx_newX (i := 9) (T := T) (F := F) (hr := Sy.new_alloc rfl) (h := ?_)); clear T F; intro ac g w T F)
    | ((first | refine Sy.sx_plain (h := ?_) | refine Sy.sx_guard (T := T) (h := ?_)); (first | ((with_reducible refine Sy.ux_load ?_); (first | refine Sy.sx_val (Sy.rx_loadOne T F) T rfl ?_ | refine Sy.sx_val (Sy.rx_oldOne T F) T rfl ?_ | refine Sy.sx_val (Sy.rx_loadAll T F) T rfl ?_ | (refine Sy.sx_loadCut T F (h := ?_); conv => whnf) | refine Sy.sx_val (Sy.rx_oldAgg T F) T rfl ?_ | (refine Sy.sx_oldCut T F (h := ?_); conv => whnf)); clear T; intro ac T) | (refine Sy.sx_pure T (h := ?_); clear T; intro ac T)); show Sy.wpUx _ _ _ _ _ _ _ _ _)
    | ((first | refine Sy.sx_unguard (T := T) (h := ?_) | refine Sy.sx_unguardH (T := T) (h := ?_)); clear T; intro ac T)
    | (with_reducible refine Sy.sx_fork ?_ ?_)
    | (with_reducible refine Sy.sx_nil ?_)
    | (with_reducible refine Sy.sx_end ?_)
    | (with_reducible refine Sy.sx_tail rfl rfl (fun K hK => ?_))
    | ((first | refine Sy.sx_new (T := T) (F := F) (hr := Sy.new_boxAgg T rfl) (h := ?_) | refine Sy.sx_new (T := T) (F := F) (hr := Sy.new_boxOne T rfl rfl) (h := ?_) | refine Sy.sx_new (T := T) (F := F) (hr := Sy.new_alloc rfl) (h := ?_)); clear T F; intro ac g w T F)
    | ((first | refine Sy.sx_storeAll (T := T) (F := F) (h := ?_) | (refine Sy.sx_storeOne (T := T) (F := F) (h := ?_); conv => whnf) | (refine Sy.sx_storeAgg (T := T) (F := F) (h := ?_); conv => whnf)); clear T F; intro ac w T F))
    refine Sy.st_callV0 T F (hc := awake_any _) (h := ?_); (clear T F; intro ac w T F)
    repeat (first
    | (((with_reducible refine Sy.is_guard ?_); (first | refine Sy.st_guard T (h := ?_) | (refine Sy.st_unguard T (h := ?_); clear T; intro ac T))))
    | (((with_reducible refine Sy.is_load ?_); (first | refine Sy.st_loadOne T F (h := ?_) | refine Sy.st_oldOne T F (h := ?_) | refine Sy.st_loadAll T F (h := ?_) | (refine Sy.st_loadCut T F (h := ?_); conv => whnf) | refine Sy.st_oldAgg T F (h := ?_) | (refine Sy.st_oldCut T F (h := ?_); conv => whnf)); clear T; intro ac T))
    | (((with_reducible refine Sy.is_store ?_); (first | refine Sy.st_storeAll T F (h := ?_) | (refine Sy.st_storeOne T F (h := ?_); conv => whnf) | (refine Sy.st_storeAgg T F (h := ?_); conv => whnf)); clear T F; intro ac w T F))
    | (((with_reducible refine Sy.is_box ?_); (first | refine Sy.st_boxAgg T F (h := ?_) | refine Sy.st_boxOne T F (h := ?_)); clear T F; intro ac g w T F))
    | (((with_reducible refine Sy.is_alloc ?_); refine Sy.st_alloc T F (h := ?_); clear T F; intro ac g w T F))
    | (((with_reducible refine Sy.is_op ?_); refine Sy.st_pure T (h := ?_); clear T; intro ac T))
    | ((with_reducible refine Sy.atK (hK _ _ ?_)))
    | ((with_reducible refine Sy.is_cond ?_); (first | refine Sy.st_true T (h := ?_) | refine Sy.st_false T (h := ?_)))
    | (with_reducible refine wpList_nil ?_)
    | (with_reducible refine wp_region_lit ?_)
    | (with_reducible refine wp_block ?_)
    | (with_reducible refine wp_skip ?_)
    | (with_reducible refine wp_exit ?_)
    | (with_reducible refine wp_ret ?_)
    | ((with_reducible refine wp_seq_k ?_); intro _ _)
    | (go_at_K; go_step)
    | (simp only [Exit.then, Exit.inBlock, ↓reduceIte, Nat.reduceEqDiff])
    | ((with_reducible refine Sy.is_drawn (id := 10) ?_); refine Sy.sx_region F [] (.t 0 (.t 1 (.t 2 (.t 3 (.t 4 (.f 5 (.t 6 (.t 7 (.t 8 (.h 9 (.h 10 (.t 11 .e)))))) 9 (.h 5 (.t 6 (.t 7 (.t 8 (.h 10 (.t 11 .e)))))))))))) [] (by kernel_rfl) ?_; (clear F; intro w F))
    | ((first | refine Sy.sx_newX (i := 9) (T := T) (F := F) (hr := Sy.new_boxAgg T rfl) (h := ?_) | refine Sy.sx_newX (i := 9) (T := T) (F := F) (hr := Sy.new_boxOne T rfl rfl) (h := ?_) | refine Sy.sx_newX (i := 9) (T := T) (F := F) (hr := Sy.new_alloc rfl) (h := ?_)); clear T F; intro ac g w T F)
    | ((first | refine Sy.sx_plain (h := ?_) | refine Sy.sx_guard (T := T) (h := ?_)); (first | ((with_reducible refine Sy.ux_load ?_); (first | refine Sy.sx_val (Sy.rx_loadOne T F) T rfl ?_ | refine Sy.sx_val (Sy.rx_oldOne T F) T rfl ?_ | refine Sy.sx_val (Sy.rx_loadAll T F) T rfl ?_ | (refine Sy.sx_loadCut T F (h := ?_); conv => whnf) | refine Sy.sx_val (Sy.rx_oldAgg T F) T rfl ?_ | (refine Sy.sx_oldCut T F (h := ?_); conv => whnf)); clear T; intro ac T) | (refine Sy.sx_pure T (h := ?_); clear T; intro ac T)); show Sy.wpUx _ _ _ _ _ _ _ _ _)
    | ((first | refine Sy.sx_unguard (T := T) (h := ?_) | refine Sy.sx_unguardH (T := T) (h := ?_)); clear T; intro ac T)
    | (with_reducible refine Sy.sx_fork ?_ ?_)
    | (with_reducible refine Sy.sx_nil ?_)
    | (with_reducible refine Sy.sx_end ?_)
    | (with_reducible refine Sy.sx_tail rfl rfl (fun K hK => ?_))
    | ((first | refine Sy.sx_new (T := T) (F := F) (hr := Sy.new_boxAgg T rfl) (h := ?_) | refine Sy.sx_new (T := T) (F := F) (hr := Sy.new_boxOne T rfl rfl) (h := ?_) | refine Sy.sx_new (T := T) (F := F) (hr := Sy.new_alloc rfl) (h := ?_)); clear T F; intro ac g w T F)
    | ((first | refine Sy.sx_storeAll (T := T) (F := F) (h := ?_) | (refine Sy.sx_storeOne (T := T) (F := F) (h := ?_); conv => whnf) | (refine Sy.sx_storeAgg (T := T) (F := F) (h := ?_); conv => whnf)); clear T F; intro ac w T F))
    ((try simp only [Exit.inBlock, Exit.then]); refine Sy.st_ret1 T F rfl (by repeat (first | exact Sy.ResV.nil | apply Sy.ResV.tmp rfl | apply Sy.ResV.row rfl rfl rfl (by repeat (first | exact Sy.Take.here | apply Sy.Take.there)) (by rfl) | apply Sy.ResV.one rfl rfl rfl (by repeat (first | exact Sy.Take.here | apply Sy.Take.there)) (by rfl))) ?_)
    exact F.retV _
  have v1 : decide ((l.length : Int) > 60) = false := decide_eq_false (by omega)
  have v2 := eqT (a := ((beginS c node).2 : Int)) (b := ((beginS c node).2 : Int)) rfl
  have hi0 := begin_inv c node
  refine Sy.enter Tryd.func3 rfl Tryd.ntmps3 rfl ?_; intro ac T; simp only [Sy.enum, Nat.zero_add, Nat.reduceAdd] at T
  repeat (first
    | (((with_reducible refine Sy.is_guard ?_); (first | refine Sy.st_guard T (h := ?_) | (refine Sy.st_unguard T (h := ?_); clear T; intro ac T))))
    | (((with_reducible refine Sy.is_load ?_); (first | refine Sy.st_loadOne T F (h := ?_) | refine Sy.st_oldOne T F (h := ?_) | refine Sy.st_loadAll T F (h := ?_) | (refine Sy.st_loadCut T F (h := ?_); conv => whnf) | refine Sy.st_oldAgg T F (h := ?_) | (refine Sy.st_oldCut T F (h := ?_); conv => whnf)); clear T; intro ac T))
    | (((with_reducible refine Sy.is_store ?_); (first | refine Sy.st_storeAll T F (h := ?_) | (refine Sy.st_storeOne T F (h := ?_); conv => whnf) | (refine Sy.st_storeAgg T F (h := ?_); conv => whnf)); clear T F; intro ac w T F))
    | (((with_reducible refine Sy.is_box ?_); (first | refine Sy.st_boxAgg T F (h := ?_) | refine Sy.st_boxOne T F (h := ?_)); clear T F; intro ac g w T F))
    | (((with_reducible refine Sy.is_alloc ?_); refine Sy.st_alloc T F (h := ?_); clear T F; intro ac g w T F))
    | (((with_reducible refine Sy.is_op ?_); refine Sy.st_pure T (h := ?_); clear T; intro ac T))
    | ((with_reducible refine Sy.atK (hK _ _ ?_)))
    | ((with_reducible refine Sy.is_cond ?_); (first | refine Sy.st_true T (h := ?_) | refine Sy.st_false T (h := ?_)))
    | (with_reducible refine wpList_nil ?_)
    | (with_reducible refine wp_region_lit ?_)
    | (with_reducible refine wp_block ?_)
    | (with_reducible refine wp_skip ?_)
    | (with_reducible refine wp_exit ?_)
    | (with_reducible refine wp_ret ?_)
    | ((with_reducible refine wp_seq_k ?_); intro _ _)
    | (go_at_K; go_step)
    | (simp only [Exit.then, Exit.inBlock, ↓reduceIte, Nat.reduceEqDiff])
    | ((with_reducible refine Sy.is_drawn (id := 10) ?_); refine Sy.sx_region F [] (.t 0 (.t 1 (.t 2 (.t 3 (.t 4 (.f 5 (.t 6 (.t 7 (.t 8 (.h 9 (.h 10 (.t 11 .e)))))) 9 (.h 5 (.t 6 (.t 7 (.t 8 (.h 10 (.t 11 .e)))))))))))) [] (by kernel_rfl) ?_; (clear F; intro w F))
    | ((first | refine Sy.sx_newX (i := 9) (T := T) (F := F) (hr := Sy.new_boxAgg T rfl) (h := ?_) | refine Sy.sx_newX (i := 9) (T := T) (F := F) (hr := Sy.new_boxOne T rfl rfl) (h := ?_) | refine Sy.sx_newX (i := 9) (T := T) (F := F) (hr := Sy.new_alloc rfl) (h := ?_)); clear T F; intro ac g w T F)
    | ((first | refine Sy.sx_plain (h := ?_) | refine Sy.sx_guard (T := T) (h := ?_)); (first | ((with_reducible refine Sy.ux_load ?_); (first | refine Sy.sx_val (Sy.rx_loadOne T F) T rfl ?_ | refine Sy.sx_val (Sy.rx_oldOne T F) T rfl ?_ | refine Sy.sx_val (Sy.rx_loadAll T F) T rfl ?_ | (refine Sy.sx_loadCut T F (h := ?_); conv => whnf) | refine Sy.sx_val (Sy.rx_oldAgg T F) T rfl ?_ | (refine Sy.sx_oldCut T F (h := ?_); conv => whnf)); clear T; intro ac T) | (refine Sy.sx_pure T (h := ?_); clear T; intro ac T)); show Sy.wpUx _ _ _ _ _ _ _ _ _)
    | ((first | refine Sy.sx_unguard (T := T) (h := ?_) | refine Sy.sx_unguardH (T := T) (h := ?_)); clear T; intro ac T)
    | (with_reducible refine Sy.sx_fork ?_ ?_)
    | (with_reducible refine Sy.sx_nil ?_)
    | (with_reducible refine Sy.sx_end ?_)
    | (with_reducible refine Sy.sx_tail rfl rfl (fun K hK => ?_))
    | ((first | refine Sy.sx_new (T := T) (F := F) (hr := Sy.new_boxAgg T rfl) (h := ?_) | refine Sy.sx_new (T := T) (F := F) (hr := Sy.new_boxOne T rfl rfl) (h := ?_) | refine Sy.sx_new (T := T) (F := F) (hr := Sy.new_alloc rfl) (h := ?_)); clear T F; intro ac g w T F)
    | ((first | refine Sy.sx_storeAll (T := T) (F := F) (h := ?_) | (refine Sy.sx_storeOne (T := T) (F := F) (h := ?_); conv => whnf) | (refine Sy.sx_storeAgg (T := T) (F := F) (h := ?_); conv => whnf)); clear T F; intro ac w T F))
  refine Sy.st_callV0 T F (hc := G1 _) (h := ?_); (clear T F; intro ac w T F)
  repeat (first
    | (((with_reducible refine Sy.is_guard ?_); (first | refine Sy.st_guard T (h := ?_) | (refine Sy.st_unguard T (h := ?_); clear T; intro ac T))))
    | (((with_reducible refine Sy.is_load ?_); (first | refine Sy.st_loadOne T F (h := ?_) | refine Sy.st_oldOne T F (h := ?_) | refine Sy.st_loadAll T F (h := ?_) | (refine Sy.st_loadCut T F (h := ?_); conv => whnf) | refine Sy.st_oldAgg T F (h := ?_) | (refine Sy.st_oldCut T F (h := ?_); conv => whnf)); clear T; intro ac T))
    | (((with_reducible refine Sy.is_store ?_); (first | refine Sy.st_storeAll T F (h := ?_) | (refine Sy.st_storeOne T F (h := ?_); conv => whnf) | (refine Sy.st_storeAgg T F (h := ?_); conv => whnf)); clear T F; intro ac w T F))
    | (((with_reducible refine Sy.is_box ?_); (first | refine Sy.st_boxAgg T F (h := ?_) | refine Sy.st_boxOne T F (h := ?_)); clear T F; intro ac g w T F))
    | (((with_reducible refine Sy.is_alloc ?_); refine Sy.st_alloc T F (h := ?_); clear T F; intro ac g w T F))
    | (((with_reducible refine Sy.is_op ?_); refine Sy.st_pure T (h := ?_); clear T; intro ac T))
    | ((with_reducible refine Sy.atK (hK _ _ ?_)))
    | ((with_reducible refine Sy.is_cond ?_); (first | refine Sy.st_true T (h := ?_) | refine Sy.st_false T (h := ?_)))
    | (with_reducible refine wpList_nil ?_)
    | (with_reducible refine wp_region_lit ?_)
    | (with_reducible refine wp_block ?_)
    | (with_reducible refine wp_skip ?_)
    | (with_reducible refine wp_exit ?_)
    | (with_reducible refine wp_ret ?_)
    | ((with_reducible refine wp_seq_k ?_); intro _ _)
    | (go_at_K; go_step)
    | (simp only [Exit.then, Exit.inBlock, ↓reduceIte, Nat.reduceEqDiff])
    | ((with_reducible refine Sy.is_drawn (id := 10) ?_); refine Sy.sx_region F [] (.t 0 (.t 1 (.t 2 (.t 3 (.t 4 (.f 5 (.t 6 (.t 7 (.t 8 (.h 9 (.h 10 (.t 11 .e)))))) 9 (.h 5 (.t 6 (.t 7 (.t 8 (.h 10 (.t 11 .e)))))))))))) [] (by kernel_rfl) ?_; (clear F; intro w F))
    | ((first | refine Sy.sx_newX (i := 9) (T := T) (F := F) (hr := Sy.new_boxAgg T rfl) (h := ?_) | refine Sy.sx_newX (i := 9) (T := T) (F := F) (hr := Sy.new_boxOne T rfl rfl) (h := ?_) | refine Sy.sx_newX (i := 9) (T := T) (F := F) (hr := Sy.new_alloc rfl) (h := ?_)); clear T F; intro ac g w T F)
    | ((first | refine Sy.sx_plain (h := ?_) | refine Sy.sx_guard (T := T) (h := ?_)); (first | ((with_reducible refine Sy.ux_load ?_); (first | refine Sy.sx_val (Sy.rx_loadOne T F) T rfl ?_ | refine Sy.sx_val (Sy.rx_oldOne T F) T rfl ?_ | refine Sy.sx_val (Sy.rx_loadAll T F) T rfl ?_ | (refine Sy.sx_loadCut T F (h := ?_); conv => whnf) | refine Sy.sx_val (Sy.rx_oldAgg T F) T rfl ?_ | (refine Sy.sx_oldCut T F (h := ?_); conv => whnf)); clear T; intro ac T) | (refine Sy.sx_pure T (h := ?_); clear T; intro ac T)); show Sy.wpUx _ _ _ _ _ _ _ _ _)
    | ((first | refine Sy.sx_unguard (T := T) (h := ?_) | refine Sy.sx_unguardH (T := T) (h := ?_)); clear T; intro ac T)
    | (with_reducible refine Sy.sx_fork ?_ ?_)
    | (with_reducible refine Sy.sx_nil ?_)
    | (with_reducible refine Sy.sx_end ?_)
    | (with_reducible refine Sy.sx_tail rfl rfl (fun K hK => ?_))
    | ((first | refine Sy.sx_new (T := T) (F := F) (hr := Sy.new_boxAgg T rfl) (h := ?_) | refine Sy.sx_new (T := T) (F := F) (hr := Sy.new_boxOne T rfl rfl) (h := ?_) | refine Sy.sx_new (T := T) (F := F) (hr := Sy.new_alloc rfl) (h := ?_)); clear T F; intro ac g w T F)
    | ((first | refine Sy.sx_storeAll (T := T) (F := F) (h := ?_) | (refine Sy.sx_storeOne (T := T) (F := F) (h := ?_); conv => whnf) | (refine Sy.sx_storeAgg (T := T) (F := F) (h := ?_); conv => whnf)); clear T F; intro ac w T F))
  refine Sy.st_callM0 T F (hc := begin_any F.sub hc node hn) (h := ?_); (clear T F; intro v m ac w hR hS T F)
  obtain ⟨p1, rfl, hp1⟩ := hR
  have hsub1 := hS
  repeat (first
    | (((with_reducible refine Sy.is_guard ?_); (first | refine Sy.st_guard T (h := ?_) | (refine Sy.st_unguard T (h := ?_); clear T; intro ac T))))
    | (((with_reducible refine Sy.is_load ?_); (first | refine Sy.st_loadOne T F (h := ?_) | refine Sy.st_oldOne T F (h := ?_) | refine Sy.st_loadAll T F (h := ?_) | (refine Sy.st_loadCut T F (h := ?_); conv => whnf) | refine Sy.st_oldAgg T F (h := ?_) | (refine Sy.st_oldCut T F (h := ?_); conv => whnf)); clear T; intro ac T))
    | (((with_reducible refine Sy.is_store ?_); (first | refine Sy.st_storeAll T F (h := ?_) | (refine Sy.st_storeOne T F (h := ?_); conv => whnf) | (refine Sy.st_storeAgg T F (h := ?_); conv => whnf)); clear T F; intro ac w T F))
    | (((with_reducible refine Sy.is_box ?_); (first | refine Sy.st_boxAgg T F (h := ?_) | refine Sy.st_boxOne T F (h := ?_)); clear T F; intro ac g w T F))
    | (((with_reducible refine Sy.is_alloc ?_); refine Sy.st_alloc T F (h := ?_); clear T F; intro ac g w T F))
    | (((with_reducible refine Sy.is_op ?_); refine Sy.st_pure T (h := ?_); clear T; intro ac T))
    | ((with_reducible refine Sy.atK (hK _ _ ?_)))
    | ((with_reducible refine Sy.is_cond ?_); (first | refine Sy.st_true T (h := ?_) | refine Sy.st_false T (h := ?_)))
    | (with_reducible refine wpList_nil ?_)
    | (with_reducible refine wp_region_lit ?_)
    | (with_reducible refine wp_block ?_)
    | (with_reducible refine wp_skip ?_)
    | (with_reducible refine wp_exit ?_)
    | (with_reducible refine wp_ret ?_)
    | ((with_reducible refine wp_seq_k ?_); intro _ _)
    | (go_at_K; go_step)
    | (simp only [Exit.then, Exit.inBlock, ↓reduceIte, Nat.reduceEqDiff])
    | ((with_reducible refine Sy.is_drawn (id := 10) ?_); refine Sy.sx_region F [] (.t 0 (.t 1 (.t 2 (.t 3 (.t 4 (.f 5 (.t 6 (.t 7 (.t 8 (.h 9 (.h 10 (.t 11 .e)))))) 9 (.h 5 (.t 6 (.t 7 (.t 8 (.h 10 (.t 11 .e)))))))))))) [] (by kernel_rfl) ?_; (clear F; intro w F))
    | ((first | refine Sy.sx_newX (i := 9) (T := T) (F := F) (hr := Sy.new_boxAgg T rfl) (h := ?_) | refine Sy.sx_newX (i := 9) (T := T) (F := F) (hr := Sy.new_boxOne T rfl rfl) (h := ?_) | refine Sy.sx_newX (i := 9) (T := T) (F := F) (hr := Sy.new_alloc rfl) (h := ?_)); clear T F; intro ac g w T F)
    | ((first | refine Sy.sx_plain (h := ?_) | refine Sy.sx_guard (T := T) (h := ?_)); (first | ((with_reducible refine Sy.ux_load ?_); (first | refine Sy.sx_val (Sy.rx_loadOne T F) T rfl ?_ | refine Sy.sx_val (Sy.rx_oldOne T F) T rfl ?_ | refine Sy.sx_val (Sy.rx_loadAll T F) T rfl ?_ | (refine Sy.sx_loadCut T F (h := ?_); conv => whnf) | refine Sy.sx_val (Sy.rx_oldAgg T F) T rfl ?_ | (refine Sy.sx_oldCut T F (h := ?_); conv => whnf)); clear T; intro ac T) | (refine Sy.sx_pure T (h := ?_); clear T; intro ac T)); show Sy.wpUx _ _ _ _ _ _ _ _ _)
    | ((first | refine Sy.sx_unguard (T := T) (h := ?_) | refine Sy.sx_unguardH (T := T) (h := ?_)); clear T; intro ac T)
    | (with_reducible refine Sy.sx_fork ?_ ?_)
    | (with_reducible refine Sy.sx_nil ?_)
    | (with_reducible refine Sy.sx_end ?_)
    | (with_reducible refine Sy.sx_tail rfl rfl (fun K hK => ?_))
    | ((first | refine Sy.sx_new (T := T) (F := F) (hr := Sy.new_boxAgg T rfl) (h := ?_) | refine Sy.sx_new (T := T) (F := F) (hr := Sy.new_boxOne T rfl rfl) (h := ?_) | refine Sy.sx_new (T := T) (F := F) (hr := Sy.new_alloc rfl) (h := ?_)); clear T F; intro ac g w T F)
    | ((first | refine Sy.sx_storeAll (T := T) (F := F) (h := ?_) | (refine Sy.sx_storeOne (T := T) (F := F) (h := ?_); conv => whnf) | (refine Sy.sx_storeAgg (T := T) (F := F) (h := ?_); conv => whnf)); clear T F; intro ac w T F))
  refine Sy.st_callM0 T F (hc := beginR_any F.sub (hc.sub hsub1) node hn) (h := ?_); (clear T F; intro v m ac w hR hS T F)
  obtain ⟨p2, rfl, hp2⟩ := hR
  replace hp1 := hp1.sub hS
  have hsub2 := hsub1.trans hS
  repeat (first
    | (((with_reducible refine Sy.is_guard ?_); (first | refine Sy.st_guard T (h := ?_) | (refine Sy.st_unguard T (h := ?_); clear T; intro ac T))))
    | (((with_reducible refine Sy.is_load ?_); (first | refine Sy.st_loadOne T F (h := ?_) | refine Sy.st_oldOne T F (h := ?_) | refine Sy.st_loadAll T F (h := ?_) | (refine Sy.st_loadCut T F (h := ?_); conv => whnf) | refine Sy.st_oldAgg T F (h := ?_) | (refine Sy.st_oldCut T F (h := ?_); conv => whnf)); clear T; intro ac T))
    | (((with_reducible refine Sy.is_store ?_); (first | refine Sy.st_storeAll T F (h := ?_) | (refine Sy.st_storeOne T F (h := ?_); conv => whnf) | (refine Sy.st_storeAgg T F (h := ?_); conv => whnf)); clear T F; intro ac w T F))
    | (((with_reducible refine Sy.is_box ?_); (first | refine Sy.st_boxAgg T F (h := ?_) | refine Sy.st_boxOne T F (h := ?_)); clear T F; intro ac g w T F))
    | (((with_reducible refine Sy.is_alloc ?_); refine Sy.st_alloc T F (h := ?_); clear T F; intro ac g w T F))
    | (((with_reducible refine Sy.is_op ?_); refine Sy.st_pure T (h := ?_); clear T; intro ac T))
    | ((with_reducible refine Sy.atK (hK _ _ ?_)))
    | ((with_reducible refine Sy.is_cond ?_); (first | refine Sy.st_true T (h := ?_) | refine Sy.st_false T (h := ?_)))
    | (with_reducible refine wpList_nil ?_)
    | (with_reducible refine wp_region_lit ?_)
    | (with_reducible refine wp_block ?_)
    | (with_reducible refine wp_skip ?_)
    | (with_reducible refine wp_exit ?_)
    | (with_reducible refine wp_ret ?_)
    | ((with_reducible refine wp_seq_k ?_); intro _ _)
    | (go_at_K; go_step)
    | (simp only [Exit.then, Exit.inBlock, ↓reduceIte, Nat.reduceEqDiff])
    | ((with_reducible refine Sy.is_drawn (id := 10) ?_); refine Sy.sx_region F [] (.t 0 (.t 1 (.t 2 (.t 3 (.t 4 (.f 5 (.t 6 (.t 7 (.t 8 (.h 9 (.h 10 (.t 11 .e)))))) 9 (.h 5 (.t 6 (.t 7 (.t 8 (.h 10 (.t 11 .e)))))))))))) [] (by kernel_rfl) ?_; (clear F; intro w F))
    | ((first | refine Sy.sx_newX (i := 9) (T := T) (F := F) (hr := Sy.new_boxAgg T rfl) (h := ?_) | refine Sy.sx_newX (i := 9) (T := T) (F := F) (hr := Sy.new_boxOne T rfl rfl) (h := ?_) | refine Sy.sx_newX (i := 9) (T := T) (F := F) (hr := Sy.new_alloc rfl) (h := ?_)); clear T F; intro ac g w T F)
    | ((first | refine Sy.sx_plain (h := ?_) | refine Sy.sx_guard (T := T) (h := ?_)); (first | ((with_reducible refine Sy.ux_load ?_); (first | refine Sy.sx_val (Sy.rx_loadOne T F) T rfl ?_ | refine Sy.sx_val (Sy.rx_oldOne T F) T rfl ?_ | refine Sy.sx_val (Sy.rx_loadAll T F) T rfl ?_ | (refine Sy.sx_loadCut T F (h := ?_); conv => whnf) | refine Sy.sx_val (Sy.rx_oldAgg T F) T rfl ?_ | (refine Sy.sx_oldCut T F (h := ?_); conv => whnf)); clear T; intro ac T) | (refine Sy.sx_pure T (h := ?_); clear T; intro ac T)); show Sy.wpUx _ _ _ _ _ _ _ _ _)
    | ((first | refine Sy.sx_unguard (T := T) (h := ?_) | refine Sy.sx_unguardH (T := T) (h := ?_)); clear T; intro ac T)
    | (with_reducible refine Sy.sx_fork ?_ ?_)
    | (with_reducible refine Sy.sx_nil ?_)
    | (with_reducible refine Sy.sx_end ?_)
    | (with_reducible refine Sy.sx_tail rfl rfl (fun K hK => ?_))
    | ((first | refine Sy.sx_new (T := T) (F := F) (hr := Sy.new_boxAgg T rfl) (h := ?_) | refine Sy.sx_new (T := T) (F := F) (hr := Sy.new_boxOne T rfl rfl) (h := ?_) | refine Sy.sx_new (T := T) (F := F) (hr := Sy.new_alloc rfl) (h := ?_)); clear T F; intro ac g w T F)
    | ((first | refine Sy.sx_storeAll (T := T) (F := F) (h := ?_) | (refine Sy.sx_storeOne (T := T) (F := F) (h := ?_); conv => whnf) | (refine Sy.sx_storeAgg (T := T) (F := F) (h := ?_); conv => whnf)); clear T F; intro ac w T F))
  refine Sy.st_callV0 T F (hc := sameM_any _ (hp1.sub F.sub) (hp2.sub F.sub)) (h := ?_); (clear T F; intro ac w T F)
  repeat (first
    | (((with_reducible refine Sy.is_guard ?_); (first | refine Sy.st_guard T (h := ?_) | (refine Sy.st_unguard T (h := ?_); clear T; intro ac T))))
    | (((with_reducible refine Sy.is_load ?_); (first | refine Sy.st_loadOne T F (h := ?_) | refine Sy.st_oldOne T F (h := ?_) | refine Sy.st_loadAll T F (h := ?_) | (refine Sy.st_loadCut T F (h := ?_); conv => whnf) | refine Sy.st_oldAgg T F (h := ?_) | (refine Sy.st_oldCut T F (h := ?_); conv => whnf)); clear T; intro ac T))
    | (((with_reducible refine Sy.is_store ?_); (first | refine Sy.st_storeAll T F (h := ?_) | (refine Sy.st_storeOne T F (h := ?_); conv => whnf) | (refine Sy.st_storeAgg T F (h := ?_); conv => whnf)); clear T F; intro ac w T F))
    | (((with_reducible refine Sy.is_box ?_); (first | refine Sy.st_boxAgg T F (h := ?_) | refine Sy.st_boxOne T F (h := ?_)); clear T F; intro ac g w T F))
    | (((with_reducible refine Sy.is_alloc ?_); refine Sy.st_alloc T F (h := ?_); clear T F; intro ac g w T F))
    | (((with_reducible refine Sy.is_op ?_); refine Sy.st_pure T (h := ?_); clear T; intro ac T))
    | ((with_reducible refine Sy.atK (hK _ _ ?_)))
    | ((with_reducible refine Sy.is_cond ?_); (first | refine Sy.st_true T (h := ?_) | refine Sy.st_false T (h := ?_)))
    | (with_reducible refine wpList_nil ?_)
    | (with_reducible refine wp_region_lit ?_)
    | (with_reducible refine wp_block ?_)
    | (with_reducible refine wp_skip ?_)
    | (with_reducible refine wp_exit ?_)
    | (with_reducible refine wp_ret ?_)
    | ((with_reducible refine wp_seq_k ?_); intro _ _)
    | (go_at_K; go_step)
    | (simp only [Exit.then, Exit.inBlock, ↓reduceIte, Nat.reduceEqDiff])
    | ((with_reducible refine Sy.is_drawn (id := 10) ?_); refine Sy.sx_region F [] (.t 0 (.t 1 (.t 2 (.t 3 (.t 4 (.f 5 (.t 6 (.t 7 (.t 8 (.h 9 (.h 10 (.t 11 .e)))))) 9 (.h 5 (.t 6 (.t 7 (.t 8 (.h 10 (.t 11 .e)))))))))))) [] (by kernel_rfl) ?_; (clear F; intro w F))
    | ((first | refine Sy.sx_newX (i := 9) (T := T) (F := F) (hr := Sy.new_boxAgg T rfl) (h := ?_) | refine Sy.sx_newX (i := 9) (T := T) (F := F) (hr := Sy.new_boxOne T rfl rfl) (h := ?_) | refine Sy.sx_newX (i := 9) (T := T) (F := F) (hr := Sy.new_alloc rfl) (h := ?_)); clear T F; intro ac g w T F)
    | ((first | refine Sy.sx_plain (h := ?_) | refine Sy.sx_guard (T := T) (h := ?_)); (first | ((with_reducible refine Sy.ux_load ?_); (first | refine Sy.sx_val (Sy.rx_loadOne T F) T rfl ?_ | refine Sy.sx_val (Sy.rx_oldOne T F) T rfl ?_ | refine Sy.sx_val (Sy.rx_loadAll T F) T rfl ?_ | (refine Sy.sx_loadCut T F (h := ?_); conv => whnf) | refine Sy.sx_val (Sy.rx_oldAgg T F) T rfl ?_ | (refine Sy.sx_oldCut T F (h := ?_); conv => whnf)); clear T; intro ac T) | (refine Sy.sx_pure T (h := ?_); clear T; intro ac T)); show Sy.wpUx _ _ _ _ _ _ _ _ _)
    | ((first | refine Sy.sx_unguard (T := T) (h := ?_) | refine Sy.sx_unguardH (T := T) (h := ?_)); clear T; intro ac T)
    | (with_reducible refine Sy.sx_fork ?_ ?_)
    | (with_reducible refine Sy.sx_nil ?_)
    | (with_reducible refine Sy.sx_end ?_)
    | (with_reducible refine Sy.sx_tail rfl rfl (fun K hK => ?_))
    | ((first | refine Sy.sx_new (T := T) (F := F) (hr := Sy.new_boxAgg T rfl) (h := ?_) | refine Sy.sx_new (T := T) (F := F) (hr := Sy.new_boxOne T rfl rfl) (h := ?_) | refine Sy.sx_new (T := T) (F := F) (hr := Sy.new_alloc rfl) (h := ?_)); clear T F; intro ac g w T F)
    | ((first | refine Sy.sx_storeAll (T := T) (F := F) (h := ?_) | (refine Sy.sx_storeOne (T := T) (F := F) (h := ?_); conv => whnf) | (refine Sy.sx_storeAgg (T := T) (F := F) (h := ?_); conv => whnf)); clear T F; intro ac w T F))
  refine Sy.loop1 (fun g i ac w' => ∃ (k : Nat) (x : MoveD) (m' : World) (q : ConfA), i = l.length - k ∧ k ≤ l.length ∧ Sub W0 m' ∧ Inv x ∧ MoveAt m' x q ∧ Sy.Tm ac 94 [(2, .slice a l.length cap), (7, .pointer (some ⟨g, 0, none⟩)), (11, .int .i64 (k : Int))] ∧
    Sy.Mem ⟨W0, [], W0⟩ m' [⟨g, moveCs x q, 31⟩] w') l.length (by exact ⟨0, _, _, p1, rfl, Nat.zero_le _, hsub2, hi0, hp1, (T.part (by repeat (first | exact Sy.Part.nil | apply Sy.Part.cons rfl))), (F.sel (by repeat (first | exact Sy.Sel.nil | apply Sy.Sel.cons (by repeat (first | exact Sy.Take.here | apply Sy.Take.there)))))⟩) ?_
  clear T F
  intro i ac w hI J K hJ hK
  obtain ⟨k, x, m, q, rfl, hk, hsub, hinv, hx, T, F⟩ := hI
  by_cases hlt : k < l.length
  · have u1 : decide ((k : Int) < (l.length : Int)) = true := decide_eq_true (by omega)
    have u2 := i64_up hlt hml
    obtain ⟨b, o, cs, ha, hcl, hat, hact⟩ := rows_get (rows_sub (R := ActR) (w := W0) (w' := m) (fun _ _ h => h) hsub h) hlt
    obtain ⟨hinv', hup⟩ := act_inv hinv l[k]
    generalize l[k] = ad at *
    have hcs := hact.1
    subst hcs
    subst ha
    have hT' := hT.sub hsub
    have hend : ∀ (q1 : ConfA) (m' : World), Sub m m' → MoveAt m' (actS x ad) q1 → ((((x.phase : Int) == 0) = true) ∨ (((x.phase : Int) == 0) = false ∧ ((((actS x ad).phase : Int) == 0) = true)) ∨
        (((x.phase : Int) == 0) = false ∧ (((actS x ad).phase : Int) == 0) = false ∧ decide (((actS x ad).phase : Int) < (x.phase : Int)) = false ∧ decide (((actS x ad).conf.c : Int) < (x.conf.c : Int)) = false ∧ ∀ w', Sub m' w' → Calls Tryd.prog 11 #[.agg (confCs (actS x ad).conf q1).toArray] w' (RetV w' (.bool true)))) := fun q1 m' hs' hm' => by
      by_cases h0 : x.phase = 0
      · exact .inl (eqT (by omega))
      by_cases h1 : (actS x ad).phase = 0
      · exact .inr (.inl ⟨eqF (by omega), eqT (by omega)⟩)
      obtain ⟨k1, k2, k3⟩ := hup h0 h1
      refine .inr (.inr ⟨eqF (by omega), eqF (by omega), decide_eq_false (by omega), decide_eq_false (by omega), fun w' hw' => ?_⟩)
      have := mayR_any w' (hm'.conf.sub hw')
      rw [k3] at this
      exact this
    repeat (first
    | (((with_reducible refine Sy.is_guard ?_); (first | refine Sy.st_guard T (h := ?_) | (refine Sy.st_unguard T (h := ?_); clear T; intro ac T))))
    | (((with_reducible refine Sy.is_load ?_); (first | refine Sy.st_loadOne T F (h := ?_) | refine Sy.st_oldOne T F (h := ?_) | refine Sy.st_loadAll T F (h := ?_) | (refine Sy.st_loadCut T F (h := ?_); conv => whnf) | refine Sy.st_oldAgg T F (h := ?_) | (refine Sy.st_oldCut T F (h := ?_); conv => whnf)); clear T; intro ac T))
    | (((with_reducible refine Sy.is_store ?_); (first | refine Sy.st_storeAll T F (h := ?_) | (refine Sy.st_storeOne T F (h := ?_); conv => whnf) | (refine Sy.st_storeAgg T F (h := ?_); conv => whnf)); clear T F; intro ac w T F))
    | (((with_reducible refine Sy.is_box ?_); (first | refine Sy.st_boxAgg T F (h := ?_) | refine Sy.st_boxOne T F (h := ?_)); clear T F; intro ac g w T F))
    | (((with_reducible refine Sy.is_alloc ?_); refine Sy.st_alloc T F (h := ?_); clear T F; intro ac g w T F))
    | (((with_reducible refine Sy.is_op ?_); refine Sy.st_pure T (h := ?_); clear T; intro ac T))
    | ((with_reducible refine Sy.atK (hK _ _ ?_)))
    | ((with_reducible refine Sy.is_cond ?_); (first | refine Sy.st_true T (h := ?_) | refine Sy.st_false T (h := ?_)))
    | (with_reducible refine wpList_nil ?_)
    | (with_reducible refine wp_region_lit ?_)
    | (with_reducible refine wp_block ?_)
    | (with_reducible refine wp_skip ?_)
    | (with_reducible refine wp_exit ?_)
    | (with_reducible refine wp_ret ?_)
    | ((with_reducible refine wp_seq_k ?_); intro _ _)
    | (go_at_K; go_step)
    | (simp only [Exit.then, Exit.inBlock, ↓reduceIte, Nat.reduceEqDiff])
    | ((with_reducible refine Sy.is_drawn (id := 10) ?_); refine Sy.sx_region F [] (.t 0 (.t 1 (.t 2 (.t 3 (.t 4 (.f 5 (.t 6 (.t 7 (.t 8 (.h 9 (.h 10 (.t 11 .e)))))) 9 (.h 5 (.t 6 (.t 7 (.t 8 (.h 10 (.t 11 .e)))))))))))) [] (by kernel_rfl) ?_; (clear F; intro w F))
    | ((first | refine Sy.sx_newX (i := 9) (T := T) (F := F) (hr := Sy.new_boxAgg T rfl) (h := ?_) | refine Sy.sx_newX (i := 9) (T := T) (F := F) (hr := Sy.new_boxOne T rfl rfl) (h := ?_) | refine Sy.sx_newX (i := 9) (T := T) (F := F) (hr := Sy.new_alloc rfl) (h := ?_)); clear T F; intro ac g w T F)
    | ((first | refine Sy.sx_plain (h := ?_) | refine Sy.sx_guard (T := T) (h := ?_)); (first | ((with_reducible refine Sy.ux_load ?_); (first | refine Sy.sx_val (Sy.rx_loadOne T F) T rfl ?_ | refine Sy.sx_val (Sy.rx_oldOne T F) T rfl ?_ | refine Sy.sx_val (Sy.rx_loadAll T F) T rfl ?_ | (refine Sy.sx_loadCut T F (h := ?_); conv => whnf) | refine Sy.sx_val (Sy.rx_oldAgg T F) T rfl ?_ | (refine Sy.sx_oldCut T F (h := ?_); conv => whnf)); clear T; intro ac T) | (refine Sy.sx_pure T (h := ?_); clear T; intro ac T)); show Sy.wpUx _ _ _ _ _ _ _ _ _)
    | ((first | refine Sy.sx_unguard (T := T) (h := ?_) | refine Sy.sx_unguardH (T := T) (h := ?_)); clear T; intro ac T)
    | (with_reducible refine Sy.sx_fork ?_ ?_)
    | (with_reducible refine Sy.sx_nil ?_)
    | (with_reducible refine Sy.sx_end ?_)
    | (with_reducible refine Sy.sx_tail rfl rfl (fun K hK => ?_))
    | ((first | refine Sy.sx_new (T := T) (F := F) (hr := Sy.new_boxAgg T rfl) (h := ?_) | refine Sy.sx_new (T := T) (F := F) (hr := Sy.new_boxOne T rfl rfl) (h := ?_) | refine Sy.sx_new (T := T) (F := F) (hr := Sy.new_alloc rfl) (h := ?_)); clear T F; intro ac g w T F)
    | ((first | refine Sy.sx_storeAll (T := T) (F := F) (h := ?_) | (refine Sy.sx_storeOne (T := T) (F := F) (h := ?_); conv => whnf) | (refine Sy.sx_storeAgg (T := T) (F := F) (h := ?_); conv => whnf)); clear T F; intro ac w T F))
    · refine Sy.sx_callM0 rfl T F (hc := steps_any F.sub hT' hx hact) (h := ?_); (clear T F; intro v m ac w hR hS T F)
      obtain ⟨q1, rfl, hq1⟩ := hR
      rcases hend q1 m hS hq1 with e1 | ⟨e1, e2⟩ | ⟨e1, e2, e3, e4, G5⟩
      · repeat (first
    | (((with_reducible refine Sy.is_guard ?_); (first | refine Sy.st_guard T (h := ?_) | (refine Sy.st_unguard T (h := ?_); clear T; intro ac T))))
    | (((with_reducible refine Sy.is_load ?_); (first | refine Sy.st_loadOne T F (h := ?_) | refine Sy.st_oldOne T F (h := ?_) | refine Sy.st_loadAll T F (h := ?_) | (refine Sy.st_loadCut T F (h := ?_); conv => whnf) | refine Sy.st_oldAgg T F (h := ?_) | (refine Sy.st_oldCut T F (h := ?_); conv => whnf)); clear T; intro ac T))
    | (((with_reducible refine Sy.is_store ?_); (first | refine Sy.st_storeAll T F (h := ?_) | (refine Sy.st_storeOne T F (h := ?_); conv => whnf) | (refine Sy.st_storeAgg T F (h := ?_); conv => whnf)); clear T F; intro ac w T F))
    | (((with_reducible refine Sy.is_box ?_); (first | refine Sy.st_boxAgg T F (h := ?_) | refine Sy.st_boxOne T F (h := ?_)); clear T F; intro ac g w T F))
    | (((with_reducible refine Sy.is_alloc ?_); refine Sy.st_alloc T F (h := ?_); clear T F; intro ac g w T F))
    | (((with_reducible refine Sy.is_op ?_); refine Sy.st_pure T (h := ?_); clear T; intro ac T))
    | ((with_reducible refine Sy.atK (hK _ _ ?_)))
    | ((with_reducible refine Sy.is_cond ?_); (first | refine Sy.st_true T (h := ?_) | refine Sy.st_false T (h := ?_)))
    | (with_reducible refine wpList_nil ?_)
    | (with_reducible refine wp_region_lit ?_)
    | (with_reducible refine wp_block ?_)
    | (with_reducible refine wp_skip ?_)
    | (with_reducible refine wp_exit ?_)
    | (with_reducible refine wp_ret ?_)
    | ((with_reducible refine wp_seq_k ?_); intro _ _)
    | (go_at_K; go_step)
    | (simp only [Exit.then, Exit.inBlock, ↓reduceIte, Nat.reduceEqDiff])
    | ((with_reducible refine Sy.is_drawn (id := 10) ?_); refine Sy.sx_region F [] (.t 0 (.t 1 (.t 2 (.t 3 (.t 4 (.f 5 (.t 6 (.t 7 (.t 8 (.h 9 (.h 10 (.t 11 .e)))))) 9 (.h 5 (.t 6 (.t 7 (.t 8 (.h 10 (.t 11 .e)))))))))))) [] (by kernel_rfl) ?_; (clear F; intro w F))
    | ((first | refine Sy.sx_newX (i := 9) (T := T) (F := F) (hr := Sy.new_boxAgg T rfl) (h := ?_) | refine Sy.sx_newX (i := 9) (T := T) (F := F) (hr := Sy.new_boxOne T rfl rfl) (h := ?_) | refine Sy.sx_newX (i := 9) (T := T) (F := F) (hr := Sy.new_alloc rfl) (h := ?_)); clear T F; intro ac g w T F)
    | ((first | refine Sy.sx_plain (h := ?_) | refine Sy.sx_guard (T := T) (h := ?_)); (first | ((with_reducible refine Sy.ux_load ?_); (first | refine Sy.sx_val (Sy.rx_loadOne T F) T rfl ?_ | refine Sy.sx_val (Sy.rx_oldOne T F) T rfl ?_ | refine Sy.sx_val (Sy.rx_loadAll T F) T rfl ?_ | (refine Sy.sx_loadCut T F (h := ?_); conv => whnf) | refine Sy.sx_val (Sy.rx_oldAgg T F) T rfl ?_ | (refine Sy.sx_oldCut T F (h := ?_); conv => whnf)); clear T; intro ac T) | (refine Sy.sx_pure T (h := ?_); clear T; intro ac T)); show Sy.wpUx _ _ _ _ _ _ _ _ _)
    | ((first | refine Sy.sx_unguard (T := T) (h := ?_) | refine Sy.sx_unguardH (T := T) (h := ?_)); clear T; intro ac T)
    | (with_reducible refine Sy.sx_fork ?_ ?_)
    | (with_reducible refine Sy.sx_nil ?_)
    | (with_reducible refine Sy.sx_end ?_)
    | (with_reducible refine Sy.sx_tail rfl rfl (fun K hK => ?_))
    | ((first | refine Sy.sx_new (T := T) (F := F) (hr := Sy.new_boxAgg T rfl) (h := ?_) | refine Sy.sx_new (T := T) (F := F) (hr := Sy.new_boxOne T rfl rfl) (h := ?_) | refine Sy.sx_new (T := T) (F := F) (hr := Sy.new_alloc rfl) (h := ?_)); clear T F; intro ac g w T F)
    | ((first | refine Sy.sx_storeAll (T := T) (F := F) (h := ?_) | (refine Sy.sx_storeOne (T := T) (F := F) (h := ?_); conv => whnf) | (refine Sy.sx_storeAgg (T := T) (F := F) (h := ?_); conv => whnf)); clear T F; intro ac w T F))
        exact Sy.handed hJ (k := l.length - (k + 1)) (by omega) ⟨k + 1, _, m, q1, rfl, by omega, hsub.trans hS, hinv', hq1, (T.part (by repeat (first | exact Sy.Part.nil | apply Sy.Part.cons rfl))), (F.sel (by repeat (first | exact Sy.Sel.nil | apply Sy.Sel.cons (by repeat (first | exact Sy.Take.here | apply Sy.Take.there)))))⟩
      · repeat (first
    | (((with_reducible refine Sy.is_guard ?_); (first | refine Sy.st_guard T (h := ?_) | (refine Sy.st_unguard T (h := ?_); clear T; intro ac T))))
    | (((with_reducible refine Sy.is_load ?_); (first | refine Sy.st_loadOne T F (h := ?_) | refine Sy.st_oldOne T F (h := ?_) | refine Sy.st_loadAll T F (h := ?_) | (refine Sy.st_loadCut T F (h := ?_); conv => whnf) | refine Sy.st_oldAgg T F (h := ?_) | (refine Sy.st_oldCut T F (h := ?_); conv => whnf)); clear T; intro ac T))
    | (((with_reducible refine Sy.is_store ?_); (first | refine Sy.st_storeAll T F (h := ?_) | (refine Sy.st_storeOne T F (h := ?_); conv => whnf) | (refine Sy.st_storeAgg T F (h := ?_); conv => whnf)); clear T F; intro ac w T F))
    | (((with_reducible refine Sy.is_box ?_); (first | refine Sy.st_boxAgg T F (h := ?_) | refine Sy.st_boxOne T F (h := ?_)); clear T F; intro ac g w T F))
    | (((with_reducible refine Sy.is_alloc ?_); refine Sy.st_alloc T F (h := ?_); clear T F; intro ac g w T F))
    | (((with_reducible refine Sy.is_op ?_); refine Sy.st_pure T (h := ?_); clear T; intro ac T))
    | ((with_reducible refine Sy.atK (hK _ _ ?_)))
    | ((with_reducible refine Sy.is_cond ?_); (first | refine Sy.st_true T (h := ?_) | refine Sy.st_false T (h := ?_)))
    | (with_reducible refine wpList_nil ?_)
    | (with_reducible refine wp_region_lit ?_)
    | (with_reducible refine wp_block ?_)
    | (with_reducible refine wp_skip ?_)
    | (with_reducible refine wp_exit ?_)
    | (with_reducible refine wp_ret ?_)
    | ((with_reducible refine wp_seq_k ?_); intro _ _)
    | (go_at_K; go_step)
    | (simp only [Exit.then, Exit.inBlock, ↓reduceIte, Nat.reduceEqDiff])
    | ((with_reducible refine Sy.is_drawn (id := 10) ?_); refine Sy.sx_region F [] (.t 0 (.t 1 (.t 2 (.t 3 (.t 4 (.f 5 (.t 6 (.t 7 (.t 8 (.h 9 (.h 10 (.t 11 .e)))))) 9 (.h 5 (.t 6 (.t 7 (.t 8 (.h 10 (.t 11 .e)))))))))))) [] (by kernel_rfl) ?_; (clear F; intro w F))
    | ((first | refine Sy.sx_newX (i := 9) (T := T) (F := F) (hr := Sy.new_boxAgg T rfl) (h := ?_) | refine Sy.sx_newX (i := 9) (T := T) (F := F) (hr := Sy.new_boxOne T rfl rfl) (h := ?_) | refine Sy.sx_newX (i := 9) (T := T) (F := F) (hr := Sy.new_alloc rfl) (h := ?_)); clear T F; intro ac g w T F)
    | ((first | refine Sy.sx_plain (h := ?_) | refine Sy.sx_guard (T := T) (h := ?_)); (first | ((with_reducible refine Sy.ux_load ?_); (first | refine Sy.sx_val (Sy.rx_loadOne T F) T rfl ?_ | refine Sy.sx_val (Sy.rx_oldOne T F) T rfl ?_ | refine Sy.sx_val (Sy.rx_loadAll T F) T rfl ?_ | (refine Sy.sx_loadCut T F (h := ?_); conv => whnf) | refine Sy.sx_val (Sy.rx_oldAgg T F) T rfl ?_ | (refine Sy.sx_oldCut T F (h := ?_); conv => whnf)); clear T; intro ac T) | (refine Sy.sx_pure T (h := ?_); clear T; intro ac T)); show Sy.wpUx _ _ _ _ _ _ _ _ _)
    | ((first | refine Sy.sx_unguard (T := T) (h := ?_) | refine Sy.sx_unguardH (T := T) (h := ?_)); clear T; intro ac T)
    | (with_reducible refine Sy.sx_fork ?_ ?_)
    | (with_reducible refine Sy.sx_nil ?_)
    | (with_reducible refine Sy.sx_end ?_)
    | (with_reducible refine Sy.sx_tail rfl rfl (fun K hK => ?_))
    | ((first | refine Sy.sx_new (T := T) (F := F) (hr := Sy.new_boxAgg T rfl) (h := ?_) | refine Sy.sx_new (T := T) (F := F) (hr := Sy.new_boxOne T rfl rfl) (h := ?_) | refine Sy.sx_new (T := T) (F := F) (hr := Sy.new_alloc rfl) (h := ?_)); clear T F; intro ac g w T F)
    | ((first | refine Sy.sx_storeAll (T := T) (F := F) (h := ?_) | (refine Sy.sx_storeOne (T := T) (F := F) (h := ?_); conv => whnf) | (refine Sy.sx_storeAgg (T := T) (F := F) (h := ?_); conv => whnf)); clear T F; intro ac w T F))
        exact Sy.handed hJ (k := l.length - (k + 1)) (by omega) ⟨k + 1, _, m, q1, rfl, by omega, hsub.trans hS, hinv', hq1, (T.part (by repeat (first | exact Sy.Part.nil | apply Sy.Part.cons rfl))), (F.sel (by repeat (first | exact Sy.Sel.nil | apply Sy.Sel.cons (by repeat (first | exact Sy.Take.here | apply Sy.Take.there)))))⟩
      · repeat (first
    | (((with_reducible refine Sy.is_guard ?_); (first | refine Sy.st_guard T (h := ?_) | (refine Sy.st_unguard T (h := ?_); clear T; intro ac T))))
    | (((with_reducible refine Sy.is_load ?_); (first | refine Sy.st_loadOne T F (h := ?_) | refine Sy.st_oldOne T F (h := ?_) | refine Sy.st_loadAll T F (h := ?_) | (refine Sy.st_loadCut T F (h := ?_); conv => whnf) | refine Sy.st_oldAgg T F (h := ?_) | (refine Sy.st_oldCut T F (h := ?_); conv => whnf)); clear T; intro ac T))
    | (((with_reducible refine Sy.is_store ?_); (first | refine Sy.st_storeAll T F (h := ?_) | (refine Sy.st_storeOne T F (h := ?_); conv => whnf) | (refine Sy.st_storeAgg T F (h := ?_); conv => whnf)); clear T F; intro ac w T F))
    | (((with_reducible refine Sy.is_box ?_); (first | refine Sy.st_boxAgg T F (h := ?_) | refine Sy.st_boxOne T F (h := ?_)); clear T F; intro ac g w T F))
    | (((with_reducible refine Sy.is_alloc ?_); refine Sy.st_alloc T F (h := ?_); clear T F; intro ac g w T F))
    | (((with_reducible refine Sy.is_op ?_); refine Sy.st_pure T (h := ?_); clear T; intro ac T))
    | ((with_reducible refine Sy.atK (hK _ _ ?_)))
    | ((with_reducible refine Sy.is_cond ?_); (first | refine Sy.st_true T (h := ?_) | refine Sy.st_false T (h := ?_)))
    | (with_reducible refine wpList_nil ?_)
    | (with_reducible refine wp_region_lit ?_)
    | (with_reducible refine wp_block ?_)
    | (with_reducible refine wp_skip ?_)
    | (with_reducible refine wp_exit ?_)
    | (with_reducible refine wp_ret ?_)
    | ((with_reducible refine wp_seq_k ?_); intro _ _)
    | (go_at_K; go_step)
    | (simp only [Exit.then, Exit.inBlock, ↓reduceIte, Nat.reduceEqDiff])
    | ((with_reducible refine Sy.is_drawn (id := 10) ?_); refine Sy.sx_region F [] (.t 0 (.t 1 (.t 2 (.t 3 (.t 4 (.f 5 (.t 6 (.t 7 (.t 8 (.h 9 (.h 10 (.t 11 .e)))))) 9 (.h 5 (.t 6 (.t 7 (.t 8 (.h 10 (.t 11 .e)))))))))))) [] (by kernel_rfl) ?_; (clear F; intro w F))
    | ((first | refine Sy.sx_newX (i := 9) (T := T) (F := F) (hr := Sy.new_boxAgg T rfl) (h := ?_) | refine Sy.sx_newX (i := 9) (T := T) (F := F) (hr := Sy.new_boxOne T rfl rfl) (h := ?_) | refine Sy.sx_newX (i := 9) (T := T) (F := F) (hr := Sy.new_alloc rfl) (h := ?_)); clear T F; intro ac g w T F)
    | ((first | refine Sy.sx_plain (h := ?_) | refine Sy.sx_guard (T := T) (h := ?_)); (first | ((with_reducible refine Sy.ux_load ?_); (first | refine Sy.sx_val (Sy.rx_loadOne T F) T rfl ?_ | refine Sy.sx_val (Sy.rx_oldOne T F) T rfl ?_ | refine Sy.sx_val (Sy.rx_loadAll T F) T rfl ?_ | (refine Sy.sx_loadCut T F (h := ?_); conv => whnf) | refine Sy.sx_val (Sy.rx_oldAgg T F) T rfl ?_ | (refine Sy.sx_oldCut T F (h := ?_); conv => whnf)); clear T; intro ac T) | (refine Sy.sx_pure T (h := ?_); clear T; intro ac T)); show Sy.wpUx _ _ _ _ _ _ _ _ _)
    | ((first | refine Sy.sx_unguard (T := T) (h := ?_) | refine Sy.sx_unguardH (T := T) (h := ?_)); clear T; intro ac T)
    | (with_reducible refine Sy.sx_fork ?_ ?_)
    | (with_reducible refine Sy.sx_nil ?_)
    | (with_reducible refine Sy.sx_end ?_)
    | (with_reducible refine Sy.sx_tail rfl rfl (fun K hK => ?_))
    | ((first | refine Sy.sx_new (T := T) (F := F) (hr := Sy.new_boxAgg T rfl) (h := ?_) | refine Sy.sx_new (T := T) (F := F) (hr := Sy.new_boxOne T rfl rfl) (h := ?_) | refine Sy.sx_new (T := T) (F := F) (hr := Sy.new_alloc rfl) (h := ?_)); clear T F; intro ac g w T F)
    | ((first | refine Sy.sx_storeAll (T := T) (F := F) (h := ?_) | (refine Sy.sx_storeOne (T := T) (F := F) (h := ?_); conv => whnf) | (refine Sy.sx_storeAgg (T := T) (F := F) (h := ?_); conv => whnf)); clear T F; intro ac w T F))
        refine Sy.st_callV0 T F (hc := G5 _ F.sub) (h := ?_); (clear T F; intro ac w T F)
        repeat (first
    | (((with_reducible refine Sy.is_guard ?_); (first | refine Sy.st_guard T (h := ?_) | (refine Sy.st_unguard T (h := ?_); clear T; intro ac T))))
    | (((with_reducible refine Sy.is_load ?_); (first | refine Sy.st_loadOne T F (h := ?_) | refine Sy.st_oldOne T F (h := ?_) | refine Sy.st_loadAll T F (h := ?_) | (refine Sy.st_loadCut T F (h := ?_); conv => whnf) | refine Sy.st_oldAgg T F (h := ?_) | (refine Sy.st_oldCut T F (h := ?_); conv => whnf)); clear T; intro ac T))
    | (((with_reducible refine Sy.is_store ?_); (first | refine Sy.st_storeAll T F (h := ?_) | (refine Sy.st_storeOne T F (h := ?_); conv => whnf) | (refine Sy.st_storeAgg T F (h := ?_); conv => whnf)); clear T F; intro ac w T F))
    | (((with_reducible refine Sy.is_box ?_); (first | refine Sy.st_boxAgg T F (h := ?_) | refine Sy.st_boxOne T F (h := ?_)); clear T F; intro ac g w T F))
    | (((with_reducible refine Sy.is_alloc ?_); refine Sy.st_alloc T F (h := ?_); clear T F; intro ac g w T F))
    | (((with_reducible refine Sy.is_op ?_); refine Sy.st_pure T (h := ?_); clear T; intro ac T))
    | ((with_reducible refine Sy.atK (hK _ _ ?_)))
    | ((with_reducible refine Sy.is_cond ?_); (first | refine Sy.st_true T (h := ?_) | refine Sy.st_false T (h := ?_)))
    | (with_reducible refine wpList_nil ?_)
    | (with_reducible refine wp_region_lit ?_)
    | (with_reducible refine wp_block ?_)
    | (with_reducible refine wp_skip ?_)
    | (with_reducible refine wp_exit ?_)
    | (with_reducible refine wp_ret ?_)
    | ((with_reducible refine wp_seq_k ?_); intro _ _)
    | (go_at_K; go_step)
    | (simp only [Exit.then, Exit.inBlock, ↓reduceIte, Nat.reduceEqDiff])
    | ((with_reducible refine Sy.is_drawn (id := 10) ?_); refine Sy.sx_region F [] (.t 0 (.t 1 (.t 2 (.t 3 (.t 4 (.f 5 (.t 6 (.t 7 (.t 8 (.h 9 (.h 10 (.t 11 .e)))))) 9 (.h 5 (.t 6 (.t 7 (.t 8 (.h 10 (.t 11 .e)))))))))))) [] (by kernel_rfl) ?_; (clear F; intro w F))
    | ((first | refine Sy.sx_newX (i := 9) (T := T) (F := F) (hr := Sy.new_boxAgg T rfl) (h := ?_) | refine Sy.sx_newX (i := 9) (T := T) (F := F) (hr := Sy.new_boxOne T rfl rfl) (h := ?_) | refine Sy.sx_newX (i := 9) (T := T) (F := F) (hr := Sy.new_alloc rfl) (h := ?_)); clear T F; intro ac g w T F)
    | ((first | refine Sy.sx_plain (h := ?_) | refine Sy.sx_guard (T := T) (h := ?_)); (first | ((with_reducible refine Sy.ux_load ?_); (first | refine Sy.sx_val (Sy.rx_loadOne T F) T rfl ?_ | refine Sy.sx_val (Sy.rx_oldOne T F) T rfl ?_ | refine Sy.sx_val (Sy.rx_loadAll T F) T rfl ?_ | (refine Sy.sx_loadCut T F (h := ?_); conv => whnf) | refine Sy.sx_val (Sy.rx_oldAgg T F) T rfl ?_ | (refine Sy.sx_oldCut T F (h := ?_); conv => whnf)); clear T; intro ac T) | (refine Sy.sx_pure T (h := ?_); clear T; intro ac T)); show Sy.wpUx _ _ _ _ _ _ _ _ _)
    | ((first | refine Sy.sx_unguard (T := T) (h := ?_) | refine Sy.sx_unguardH (T := T) (h := ?_)); clear T; intro ac T)
    | (with_reducible refine Sy.sx_fork ?_ ?_)
    | (with_reducible refine Sy.sx_nil ?_)
    | (with_reducible refine Sy.sx_end ?_)
    | (with_reducible refine Sy.sx_tail rfl rfl (fun K hK => ?_))
    | ((first | refine Sy.sx_new (T := T) (F := F) (hr := Sy.new_boxAgg T rfl) (h := ?_) | refine Sy.sx_new (T := T) (F := F) (hr := Sy.new_boxOne T rfl rfl) (h := ?_) | refine Sy.sx_new (T := T) (F := F) (hr := Sy.new_alloc rfl) (h := ?_)); clear T F; intro ac g w T F)
    | ((first | refine Sy.sx_storeAll (T := T) (F := F) (h := ?_) | (refine Sy.sx_storeOne (T := T) (F := F) (h := ?_); conv => whnf) | (refine Sy.sx_storeAgg (T := T) (F := F) (h := ?_); conv => whnf)); clear T F; intro ac w T F))
        exact Sy.handed hJ (k := l.length - (k + 1)) (by omega) ⟨k + 1, _, m, q1, rfl, by omega, hsub.trans hS, hinv', hq1, (T.part (by repeat (first | exact Sy.Part.nil | apply Sy.Part.cons rfl))), (F.sel (by repeat (first | exact Sy.Sel.nil | apply Sy.Sel.cons (by repeat (first | exact Sy.Take.here | apply Sy.Take.there)))))⟩
    · repeat (first
    | (((with_reducible refine Sy.is_guard ?_); (first | refine Sy.st_guard T (h := ?_) | (refine Sy.st_unguard T (h := ?_); clear T; intro ac T))))
    | (((with_reducible refine Sy.is_load ?_); (first | refine Sy.st_loadOne T F (h := ?_) | refine Sy.st_oldOne T F (h := ?_) | refine Sy.st_loadAll T F (h := ?_) | (refine Sy.st_loadCut T F (h := ?_); conv => whnf) | refine Sy.st_oldAgg T F (h := ?_) | (refine Sy.st_oldCut T F (h := ?_); conv => whnf)); clear T; intro ac T))
    | (((with_reducible refine Sy.is_store ?_); (first | refine Sy.st_storeAll T F (h := ?_) | (refine Sy.st_storeOne T F (h := ?_); conv => whnf) | (refine Sy.st_storeAgg T F (h := ?_); conv => whnf)); clear T F; intro ac w T F))
    | (((with_reducible refine Sy.is_box ?_); (first | refine Sy.st_boxAgg T F (h := ?_) | refine Sy.st_boxOne T F (h := ?_)); clear T F; intro ac g w T F))
    | (((with_reducible refine Sy.is_alloc ?_); refine Sy.st_alloc T F (h := ?_); clear T F; intro ac g w T F))
    | (((with_reducible refine Sy.is_op ?_); refine Sy.st_pure T (h := ?_); clear T; intro ac T))
    | ((with_reducible refine Sy.atK (hK _ _ ?_)))
    | ((with_reducible refine Sy.is_cond ?_); (first | refine Sy.st_true T (h := ?_) | refine Sy.st_false T (h := ?_)))
    | (with_reducible refine wpList_nil ?_)
    | (with_reducible refine wp_region_lit ?_)
    | (with_reducible refine wp_block ?_)
    | (with_reducible refine wp_skip ?_)
    | (with_reducible refine wp_exit ?_)
    | (with_reducible refine wp_ret ?_)
    | ((with_reducible refine wp_seq_k ?_); intro _ _)
    | (go_at_K; go_step)
    | (simp only [Exit.then, Exit.inBlock, ↓reduceIte, Nat.reduceEqDiff])
    | ((with_reducible refine Sy.is_drawn (id := 10) ?_); refine Sy.sx_region F [] (.t 0 (.t 1 (.t 2 (.t 3 (.t 4 (.f 5 (.t 6 (.t 7 (.t 8 (.h 9 (.h 10 (.t 11 .e)))))) 9 (.h 5 (.t 6 (.t 7 (.t 8 (.h 10 (.t 11 .e)))))))))))) [] (by kernel_rfl) ?_; (clear F; intro w F))
    | ((first | refine Sy.sx_newX (i := 9) (T := T) (F := F) (hr := Sy.new_boxAgg T rfl) (h := ?_) | refine Sy.sx_newX (i := 9) (T := T) (F := F) (hr := Sy.new_boxOne T rfl rfl) (h := ?_) | refine Sy.sx_newX (i := 9) (T := T) (F := F) (hr := Sy.new_alloc rfl) (h := ?_)); clear T F; intro ac g w T F)
    | ((first | refine Sy.sx_plain (h := ?_) | refine Sy.sx_guard (T := T) (h := ?_)); (first | ((with_reducible refine Sy.ux_load ?_); (first | refine Sy.sx_val (Sy.rx_loadOne T F) T rfl ?_ | refine Sy.sx_val (Sy.rx_oldOne T F) T rfl ?_ | refine Sy.sx_val (Sy.rx_loadAll T F) T rfl ?_ | (refine Sy.sx_loadCut T F (h := ?_); conv => whnf) | refine Sy.sx_val (Sy.rx_oldAgg T F) T rfl ?_ | (refine Sy.sx_oldCut T F (h := ?_); conv => whnf)); clear T; intro ac T) | (refine Sy.sx_pure T (h := ?_); clear T; intro ac T)); show Sy.wpUx _ _ _ _ _ _ _ _ _)
    | ((first | refine Sy.sx_unguard (T := T) (h := ?_) | refine Sy.sx_unguardH (T := T) (h := ?_)); clear T; intro ac T)
    | (with_reducible refine Sy.sx_fork ?_ ?_)
    | (with_reducible refine Sy.sx_nil ?_)
    | (with_reducible refine Sy.sx_end ?_)
    | (with_reducible refine Sy.sx_tail rfl rfl (fun K hK => ?_))
    | ((first | refine Sy.sx_new (T := T) (F := F) (hr := Sy.new_boxAgg T rfl) (h := ?_) | refine Sy.sx_new (T := T) (F := F) (hr := Sy.new_boxOne T rfl rfl) (h := ?_) | refine Sy.sx_new (T := T) (F := F) (hr := Sy.new_alloc rfl) (h := ?_)); clear T F; intro ac g w T F)
    | ((first | refine Sy.sx_storeAll (T := T) (F := F) (h := ?_) | (refine Sy.sx_storeOne (T := T) (F := F) (h := ?_); conv => whnf) | (refine Sy.sx_storeAgg (T := T) (F := F) (h := ?_); conv => whnf)); clear T F; intro ac w T F))
      refine Sy.sx_callM0 rfl T F (hc := steps_any F.sub hT' hx hact) (h := ?_); (clear T F; intro v m ac w hR hS T F)
      obtain ⟨q1, rfl, hq1⟩ := hR
      rcases hend q1 m hS hq1 with e1 | ⟨e1, e2⟩ | ⟨e1, e2, e3, e4, G5⟩
      · repeat (first
    | (((with_reducible refine Sy.is_guard ?_); (first | refine Sy.st_guard T (h := ?_) | (refine Sy.st_unguard T (h := ?_); clear T; intro ac T))))
    | (((with_reducible refine Sy.is_load ?_); (first | refine Sy.st_loadOne T F (h := ?_) | refine Sy.st_oldOne T F (h := ?_) | refine Sy.st_loadAll T F (h := ?_) | (refine Sy.st_loadCut T F (h := ?_); conv => whnf) | refine Sy.st_oldAgg T F (h := ?_) | (refine Sy.st_oldCut T F (h := ?_); conv => whnf)); clear T; intro ac T))
    | (((with_reducible refine Sy.is_store ?_); (first | refine Sy.st_storeAll T F (h := ?_) | (refine Sy.st_storeOne T F (h := ?_); conv => whnf) | (refine Sy.st_storeAgg T F (h := ?_); conv => whnf)); clear T F; intro ac w T F))
    | (((with_reducible refine Sy.is_box ?_); (first | refine Sy.st_boxAgg T F (h := ?_) | refine Sy.st_boxOne T F (h := ?_)); clear T F; intro ac g w T F))
    | (((with_reducible refine Sy.is_alloc ?_); refine Sy.st_alloc T F (h := ?_); clear T F; intro ac g w T F))
    | (((with_reducible refine Sy.is_op ?_); refine Sy.st_pure T (h := ?_); clear T; intro ac T))
    | ((with_reducible refine Sy.atK (hK _ _ ?_)))
    | ((with_reducible refine Sy.is_cond ?_); (first | refine Sy.st_true T (h := ?_) | refine Sy.st_false T (h := ?_)))
    | (with_reducible refine wpList_nil ?_)
    | (with_reducible refine wp_region_lit ?_)
    | (with_reducible refine wp_block ?_)
    | (with_reducible refine wp_skip ?_)
    | (with_reducible refine wp_exit ?_)
    | (with_reducible refine wp_ret ?_)
    | ((with_reducible refine wp_seq_k ?_); intro _ _)
    | (go_at_K; go_step)
    | (simp only [Exit.then, Exit.inBlock, ↓reduceIte, Nat.reduceEqDiff])
    | ((with_reducible refine Sy.is_drawn (id := 10) ?_); refine Sy.sx_region F [] (.t 0 (.t 1 (.t 2 (.t 3 (.t 4 (.f 5 (.t 6 (.t 7 (.t 8 (.h 9 (.h 10 (.t 11 .e)))))) 9 (.h 5 (.t 6 (.t 7 (.t 8 (.h 10 (.t 11 .e)))))))))))) [] (by kernel_rfl) ?_; (clear F; intro w F))
    | ((first | refine Sy.sx_newX (i := 9) (T := T) (F := F) (hr := Sy.new_boxAgg T rfl) (h := ?_) | refine Sy.sx_newX (i := 9) (T := T) (F := F) (hr := Sy.new_boxOne T rfl rfl) (h := ?_) | refine Sy.sx_newX (i := 9) (T := T) (F := F) (hr := Sy.new_alloc rfl) (h := ?_)); clear T F; intro ac g w T F)
    | ((first | refine Sy.sx_plain (h := ?_) | refine Sy.sx_guard (T := T) (h := ?_)); (first | ((with_reducible refine Sy.ux_load ?_); (first | refine Sy.sx_val (Sy.rx_loadOne T F) T rfl ?_ | refine Sy.sx_val (Sy.rx_oldOne T F) T rfl ?_ | refine Sy.sx_val (Sy.rx_loadAll T F) T rfl ?_ | (refine Sy.sx_loadCut T F (h := ?_); conv => whnf) | refine Sy.sx_val (Sy.rx_oldAgg T F) T rfl ?_ | (refine Sy.sx_oldCut T F (h := ?_); conv => whnf)); clear T; intro ac T) | (refine Sy.sx_pure T (h := ?_); clear T; intro ac T)); show Sy.wpUx _ _ _ _ _ _ _ _ _)
    | ((first | refine Sy.sx_unguard (T := T) (h := ?_) | refine Sy.sx_unguardH (T := T) (h := ?_)); clear T; intro ac T)
    | (with_reducible refine Sy.sx_fork ?_ ?_)
    | (with_reducible refine Sy.sx_nil ?_)
    | (with_reducible refine Sy.sx_end ?_)
    | (with_reducible refine Sy.sx_tail rfl rfl (fun K hK => ?_))
    | ((first | refine Sy.sx_new (T := T) (F := F) (hr := Sy.new_boxAgg T rfl) (h := ?_) | refine Sy.sx_new (T := T) (F := F) (hr := Sy.new_boxOne T rfl rfl) (h := ?_) | refine Sy.sx_new (T := T) (F := F) (hr := Sy.new_alloc rfl) (h := ?_)); clear T F; intro ac g w T F)
    | ((first | refine Sy.sx_storeAll (T := T) (F := F) (h := ?_) | (refine Sy.sx_storeOne (T := T) (F := F) (h := ?_); conv => whnf) | (refine Sy.sx_storeAgg (T := T) (F := F) (h := ?_); conv => whnf)); clear T F; intro ac w T F))
        exact Sy.handed hJ (k := l.length - (k + 1)) (by omega) ⟨k + 1, _, m, q1, rfl, by omega, hsub.trans hS, hinv', hq1, (T.part (by repeat (first | exact Sy.Part.nil | apply Sy.Part.cons rfl))), (F.sel (by repeat (first | exact Sy.Sel.nil | apply Sy.Sel.cons (by repeat (first | exact Sy.Take.here | apply Sy.Take.there)))))⟩
      · repeat (first
    | (((with_reducible refine Sy.is_guard ?_); (first | refine Sy.st_guard T (h := ?_) | (refine Sy.st_unguard T (h := ?_); clear T; intro ac T))))
    | (((with_reducible refine Sy.is_load ?_); (first | refine Sy.st_loadOne T F (h := ?_) | refine Sy.st_oldOne T F (h := ?_) | refine Sy.st_loadAll T F (h := ?_) | (refine Sy.st_loadCut T F (h := ?_); conv => whnf) | refine Sy.st_oldAgg T F (h := ?_) | (refine Sy.st_oldCut T F (h := ?_); conv => whnf)); clear T; intro ac T))
    | (((with_reducible refine Sy.is_store ?_); (first | refine Sy.st_storeAll T F (h := ?_) | (refine Sy.st_storeOne T F (h := ?_); conv => whnf) | (refine Sy.st_storeAgg T F (h := ?_); conv => whnf)); clear T F; intro ac w T F))
    | (((with_reducible refine Sy.is_box ?_); (first | refine Sy.st_boxAgg T F (h := ?_) | refine Sy.st_boxOne T F (h := ?_)); clear T F; intro ac g w T F))
    | (((with_reducible refine Sy.is_alloc ?_); refine Sy.st_alloc T F (h := ?_); clear T F; intro ac g w T F))
    | (((with_reducible refine Sy.is_op ?_); refine Sy.st_pure T (h := ?_); clear T; intro ac T))
    | ((with_reducible refine Sy.atK (hK _ _ ?_)))
    | ((with_reducible refine Sy.is_cond ?_); (first | refine Sy.st_true T (h := ?_) | refine Sy.st_false T (h := ?_)))
    | (with_reducible refine wpList_nil ?_)
    | (with_reducible refine wp_region_lit ?_)
    | (with_reducible refine wp_block ?_)
    | (with_reducible refine wp_skip ?_)
    | (with_reducible refine wp_exit ?_)
    | (with_reducible refine wp_ret ?_)
    | ((with_reducible refine wp_seq_k ?_); intro _ _)
    | (go_at_K; go_step)
    | (simp only [Exit.then, Exit.inBlock, ↓reduceIte, Nat.reduceEqDiff])
    | ((with_reducible refine Sy.is_drawn (id := 10) ?_); refine Sy.sx_region F [] (.t 0 (.t 1 (.t 2 (.t 3 (.t 4 (.f 5 (.t 6 (.t 7 (.t 8 (.h 9 (.h 10 (.t 11 .e)))))) 9 (.h 5 (.t 6 (.t 7 (.t 8 (.h 10 (.t 11 .e)))))))))))) [] (by kernel_rfl) ?_; (clear F; intro w F))
    | ((first | refine Sy.sx_newX (i := 9) (T := T) (F := F) (hr := Sy.new_boxAgg T rfl) (h := ?_) | refine Sy.sx_newX (i := 9) (T := T) (F := F) (hr := Sy.new_boxOne T rfl rfl) (h := ?_) | refine Sy.sx_newX (i := 9) (T := T) (F := F) (hr := Sy.new_alloc rfl) (h := ?_)); clear T F; intro ac g w T F)
    | ((first | refine Sy.sx_plain (h := ?_) | refine Sy.sx_guard (T := T) (h := ?_)); (first | ((with_reducible refine Sy.ux_load ?_); (first | refine Sy.sx_val (Sy.rx_loadOne T F) T rfl ?_ | refine Sy.sx_val (Sy.rx_oldOne T F) T rfl ?_ | refine Sy.sx_val (Sy.rx_loadAll T F) T rfl ?_ | (refine Sy.sx_loadCut T F (h := ?_); conv => whnf) | refine Sy.sx_val (Sy.rx_oldAgg T F) T rfl ?_ | (refine Sy.sx_oldCut T F (h := ?_); conv => whnf)); clear T; intro ac T) | (refine Sy.sx_pure T (h := ?_); clear T; intro ac T)); show Sy.wpUx _ _ _ _ _ _ _ _ _)
    | ((first | refine Sy.sx_unguard (T := T) (h := ?_) | refine Sy.sx_unguardH (T := T) (h := ?_)); clear T; intro ac T)
    | (with_reducible refine Sy.sx_fork ?_ ?_)
    | (with_reducible refine Sy.sx_nil ?_)
    | (with_reducible refine Sy.sx_end ?_)
    | (with_reducible refine Sy.sx_tail rfl rfl (fun K hK => ?_))
    | ((first | refine Sy.sx_new (T := T) (F := F) (hr := Sy.new_boxAgg T rfl) (h := ?_) | refine Sy.sx_new (T := T) (F := F) (hr := Sy.new_boxOne T rfl rfl) (h := ?_) | refine Sy.sx_new (T := T) (F := F) (hr := Sy.new_alloc rfl) (h := ?_)); clear T F; intro ac g w T F)
    | ((first | refine Sy.sx_storeAll (T := T) (F := F) (h := ?_) | (refine Sy.sx_storeOne (T := T) (F := F) (h := ?_); conv => whnf) | (refine Sy.sx_storeAgg (T := T) (F := F) (h := ?_); conv => whnf)); clear T F; intro ac w T F))
        exact Sy.handed hJ (k := l.length - (k + 1)) (by omega) ⟨k + 1, _, m, q1, rfl, by omega, hsub.trans hS, hinv', hq1, (T.part (by repeat (first | exact Sy.Part.nil | apply Sy.Part.cons rfl))), (F.sel (by repeat (first | exact Sy.Sel.nil | apply Sy.Sel.cons (by repeat (first | exact Sy.Take.here | apply Sy.Take.there)))))⟩
      · repeat (first
    | (((with_reducible refine Sy.is_guard ?_); (first | refine Sy.st_guard T (h := ?_) | (refine Sy.st_unguard T (h := ?_); clear T; intro ac T))))
    | (((with_reducible refine Sy.is_load ?_); (first | refine Sy.st_loadOne T F (h := ?_) | refine Sy.st_oldOne T F (h := ?_) | refine Sy.st_loadAll T F (h := ?_) | (refine Sy.st_loadCut T F (h := ?_); conv => whnf) | refine Sy.st_oldAgg T F (h := ?_) | (refine Sy.st_oldCut T F (h := ?_); conv => whnf)); clear T; intro ac T))
    | (((with_reducible refine Sy.is_store ?_); (first | refine Sy.st_storeAll T F (h := ?_) | (refine Sy.st_storeOne T F (h := ?_); conv => whnf) | (refine Sy.st_storeAgg T F (h := ?_); conv => whnf)); clear T F; intro ac w T F))
    | (((with_reducible refine Sy.is_box ?_); (first | refine Sy.st_boxAgg T F (h := ?_) | refine Sy.st_boxOne T F (h := ?_)); clear T F; intro ac g w T F))
    | (((with_reducible refine Sy.is_alloc ?_); refine Sy.st_alloc T F (h := ?_); clear T F; intro ac g w T F))
    | (((with_reducible refine Sy.is_op ?_); refine Sy.st_pure T (h := ?_); clear T; intro ac T))
    | ((with_reducible refine Sy.atK (hK _ _ ?_)))
    | ((with_reducible refine Sy.is_cond ?_); (first | refine Sy.st_true T (h := ?_) | refine Sy.st_false T (h := ?_)))
    | (with_reducible refine wpList_nil ?_)
    | (with_reducible refine wp_region_lit ?_)
    | (with_reducible refine wp_block ?_)
    | (with_reducible refine wp_skip ?_)
    | (with_reducible refine wp_exit ?_)
    | (with_reducible refine wp_ret ?_)
    | ((with_reducible refine wp_seq_k ?_); intro _ _)
    | (go_at_K; go_step)
    | (simp only [Exit.then, Exit.inBlock, ↓reduceIte, Nat.reduceEqDiff])
    | ((with_reducible refine Sy.is_drawn (id := 10) ?_); refine Sy.sx_region F [] (.t 0 (.t 1 (.t 2 (.t 3 (.t 4 (.f 5 (.t 6 (.t 7 (.t 8 (.h 9 (.h 10 (.t 11 .e)))))) 9 (.h 5 (.t 6 (.t 7 (.t 8 (.h 10 (.t 11 .e)))))))))))) [] (by kernel_rfl) ?_; (clear F; intro w F))
    | ((first | refine Sy.sx_newX (i := 9) (T := T) (F := F) (hr := Sy.new_boxAgg T rfl) (h := ?_) | refine Sy.sx_newX (i := 9) (T := T) (F := F) (hr := Sy.new_boxOne T rfl rfl) (h := ?_) | refine Sy.sx_newX (i := 9) (T := T) (F := F) (hr := Sy.new_alloc rfl) (h := ?_)); clear T F; intro ac g w T F)
    | ((first | refine Sy.sx_plain (h := ?_) | refine Sy.sx_guard (T := T) (h := ?_)); (first | ((with_reducible refine Sy.ux_load ?_); (first | refine Sy.sx_val (Sy.rx_loadOne T F) T rfl ?_ | refine Sy.sx_val (Sy.rx_oldOne T F) T rfl ?_ | refine Sy.sx_val (Sy.rx_loadAll T F) T rfl ?_ | (refine Sy.sx_loadCut T F (h := ?_); conv => whnf) | refine Sy.sx_val (Sy.rx_oldAgg T F) T rfl ?_ | (refine Sy.sx_oldCut T F (h := ?_); conv => whnf)); clear T; intro ac T) | (refine Sy.sx_pure T (h := ?_); clear T; intro ac T)); show Sy.wpUx _ _ _ _ _ _ _ _ _)
    | ((first | refine Sy.sx_unguard (T := T) (h := ?_) | refine Sy.sx_unguardH (T := T) (h := ?_)); clear T; intro ac T)
    | (with_reducible refine Sy.sx_fork ?_ ?_)
    | (with_reducible refine Sy.sx_nil ?_)
    | (with_reducible refine Sy.sx_end ?_)
    | (with_reducible refine Sy.sx_tail rfl rfl (fun K hK => ?_))
    | ((first | refine Sy.sx_new (T := T) (F := F) (hr := Sy.new_boxAgg T rfl) (h := ?_) | refine Sy.sx_new (T := T) (F := F) (hr := Sy.new_boxOne T rfl rfl) (h := ?_) | refine Sy.sx_new (T := T) (F := F) (hr := Sy.new_alloc rfl) (h := ?_)); clear T F; intro ac g w T F)
    | ((first | refine Sy.sx_storeAll (T := T) (F := F) (h := ?_) | (refine Sy.sx_storeOne (T := T) (F := F) (h := ?_); conv => whnf) | (refine Sy.sx_storeAgg (T := T) (F := F) (h := ?_); conv => whnf)); clear T F; intro ac w T F))
        refine Sy.st_callV0 T F (hc := G5 _ F.sub) (h := ?_); (clear T F; intro ac w T F)
        repeat (first
    | (((with_reducible refine Sy.is_guard ?_); (first | refine Sy.st_guard T (h := ?_) | (refine Sy.st_unguard T (h := ?_); clear T; intro ac T))))
    | (((with_reducible refine Sy.is_load ?_); (first | refine Sy.st_loadOne T F (h := ?_) | refine Sy.st_oldOne T F (h := ?_) | refine Sy.st_loadAll T F (h := ?_) | (refine Sy.st_loadCut T F (h := ?_); conv => whnf) | refine Sy.st_oldAgg T F (h := ?_) | (refine Sy.st_oldCut T F (h := ?_); conv => whnf)); clear T; intro ac T))
    | (((with_reducible refine Sy.is_store ?_); (first | refine Sy.st_storeAll T F (h := ?_) | (refine Sy.st_storeOne T F (h := ?_); conv => whnf) | (refine Sy.st_storeAgg T F (h := ?_); conv => whnf)); clear T F; intro ac w T F))
    | (((with_reducible refine Sy.is_box ?_); (first | refine Sy.st_boxAgg T F (h := ?_) | refine Sy.st_boxOne T F (h := ?_)); clear T F; intro ac g w T F))
    | (((with_reducible refine Sy.is_alloc ?_); refine Sy.st_alloc T F (h := ?_); clear T F; intro ac g w T F))
    | (((with_reducible refine Sy.is_op ?_); refine Sy.st_pure T (h := ?_); clear T; intro ac T))
    | ((with_reducible refine Sy.atK (hK _ _ ?_)))
    | ((with_reducible refine Sy.is_cond ?_); (first | refine Sy.st_true T (h := ?_) | refine Sy.st_false T (h := ?_)))
    | (with_reducible refine wpList_nil ?_)
    | (with_reducible refine wp_region_lit ?_)
    | (with_reducible refine wp_block ?_)
    | (with_reducible refine wp_skip ?_)
    | (with_reducible refine wp_exit ?_)
    | (with_reducible refine wp_ret ?_)
    | ((with_reducible refine wp_seq_k ?_); intro _ _)
    | (go_at_K; go_step)
    | (simp only [Exit.then, Exit.inBlock, ↓reduceIte, Nat.reduceEqDiff])
    | ((with_reducible refine Sy.is_drawn (id := 10) ?_); refine Sy.sx_region F [] (.t 0 (.t 1 (.t 2 (.t 3 (.t 4 (.f 5 (.t 6 (.t 7 (.t 8 (.h 9 (.h 10 (.t 11 .e)))))) 9 (.h 5 (.t 6 (.t 7 (.t 8 (.h 10 (.t 11 .e)))))))))))) [] (by kernel_rfl) ?_; (clear F; intro w F))
    | ((first | refine Sy.sx_newX (i := 9) (T := T) (F := F) (hr := Sy.new_boxAgg T rfl) (h := ?_) | refine Sy.sx_newX (i := 9) (T := T) (F := F) (hr := Sy.new_boxOne T rfl rfl) (h := ?_) | refine Sy.sx_newX (i := 9) (T := T) (F := F) (hr := Sy.new_alloc rfl) (h := ?_)); clear T F; intro ac g w T F)
    | ((first | refine Sy.sx_plain (h := ?_) | refine Sy.sx_guard (T := T) (h := ?_)); (first | ((with_reducible refine Sy.ux_load ?_); (first | refine Sy.sx_val (Sy.rx_loadOne T F) T rfl ?_ | refine Sy.sx_val (Sy.rx_oldOne T F) T rfl ?_ | refine Sy.sx_val (Sy.rx_loadAll T F) T rfl ?_ | (refine Sy.sx_loadCut T F (h := ?_); conv => whnf) | refine Sy.sx_val (Sy.rx_oldAgg T F) T rfl ?_ | (refine Sy.sx_oldCut T F (h := ?_); conv => whnf)); clear T; intro ac T) | (refine Sy.sx_pure T (h := ?_); clear T; intro ac T)); show Sy.wpUx _ _ _ _ _ _ _ _ _)
    | ((first | refine Sy.sx_unguard (T := T) (h := ?_) | refine Sy.sx_unguardH (T := T) (h := ?_)); clear T; intro ac T)
    | (with_reducible refine Sy.sx_fork ?_ ?_)
    | (with_reducible refine Sy.sx_nil ?_)
    | (with_reducible refine Sy.sx_end ?_)
    | (with_reducible refine Sy.sx_tail rfl rfl (fun K hK => ?_))
    | ((first | refine Sy.sx_new (T := T) (F := F) (hr := Sy.new_boxAgg T rfl) (h := ?_) | refine Sy.sx_new (T := T) (F := F) (hr := Sy.new_boxOne T rfl rfl) (h := ?_) | refine Sy.sx_new (T := T) (F := F) (hr := Sy.new_alloc rfl) (h := ?_)); clear T F; intro ac g w T F)
    | ((first | refine Sy.sx_storeAll (T := T) (F := F) (h := ?_) | (refine Sy.sx_storeOne (T := T) (F := F) (h := ?_); conv => whnf) | (refine Sy.sx_storeAgg (T := T) (F := F) (h := ?_); conv => whnf)); clear T F; intro ac w T F))
        exact Sy.handed hJ (k := l.length - (k + 1)) (by omega) ⟨k + 1, _, m, q1, rfl, by omega, hsub.trans hS, hinv', hq1, (T.part (by repeat (first | exact Sy.Part.nil | apply Sy.Part.cons rfl))), (F.sel (by repeat (first | exact Sy.Sel.nil | apply Sy.Sel.cons (by repeat (first | exact Sy.Take.here | apply Sy.Take.there)))))⟩
  · obtain rfl : k = l.length := by omega
    have u1 : decide ((l.length : Int) < (l.length : Int)) = false := decide_eq_false (by omega)
    repeat (first
    | (((with_reducible refine Sy.is_guard ?_); (first | refine Sy.st_guard T (h := ?_) | (refine Sy.st_unguard T (h := ?_); clear T; intro ac T))))
    | (((with_reducible refine Sy.is_load ?_); (first | refine Sy.st_loadOne T F (h := ?_) | refine Sy.st_oldOne T F (h := ?_) | refine Sy.st_loadAll T F (h := ?_) | (refine Sy.st_loadCut T F (h := ?_); conv => whnf) | refine Sy.st_oldAgg T F (h := ?_) | (refine Sy.st_oldCut T F (h := ?_); conv => whnf)); clear T; intro ac T))
    | (((with_reducible refine Sy.is_store ?_); (first | refine Sy.st_storeAll T F (h := ?_) | (refine Sy.st_storeOne T F (h := ?_); conv => whnf) | (refine Sy.st_storeAgg T F (h := ?_); conv => whnf)); clear T F; intro ac w T F))
    | (((with_reducible refine Sy.is_box ?_); (first | refine Sy.st_boxAgg T F (h := ?_) | refine Sy.st_boxOne T F (h := ?_)); clear T F; intro ac g w T F))
    | (((with_reducible refine Sy.is_alloc ?_); refine Sy.st_alloc T F (h := ?_); clear T F; intro ac g w T F))
    | (((with_reducible refine Sy.is_op ?_); refine Sy.st_pure T (h := ?_); clear T; intro ac T))
    | ((with_reducible refine Sy.atK (hK _ _ ?_)))
    | ((with_reducible refine Sy.is_cond ?_); (first | refine Sy.st_true T (h := ?_) | refine Sy.st_false T (h := ?_)))
    | (with_reducible refine wpList_nil ?_)
    | (with_reducible refine wp_region_lit ?_)
    | (with_reducible refine wp_block ?_)
    | (with_reducible refine wp_skip ?_)
    | (with_reducible refine wp_exit ?_)
    | (with_reducible refine wp_ret ?_)
    | ((with_reducible refine wp_seq_k ?_); intro _ _)
    | (go_at_K; go_step)
    | (simp only [Exit.then, Exit.inBlock, ↓reduceIte, Nat.reduceEqDiff])
    | ((with_reducible refine Sy.is_drawn (id := 10) ?_); refine Sy.sx_region F [] (.t 0 (.t 1 (.t 2 (.t 3 (.t 4 (.f 5 (.t 6 (.t 7 (.t 8 (.h 9 (.h 10 (.t 11 .e)))))) 9 (.h 5 (.t 6 (.t 7 (.t 8 (.h 10 (.t 11 .e)))))))))))) [] (by kernel_rfl) ?_; (clear F; intro w F))
    | ((first | refine Sy.sx_newX (i := 9) (T := T) (F := F) (hr := Sy.new_boxAgg T rfl) (h := ?_) | refine Sy.sx_newX (i := 9) (T := T) (F := F) (hr := Sy.new_boxOne T rfl rfl) (h := ?_) | refine Sy.sx_newX (i := 9) (T := T) (F := F) (hr := Sy.new_alloc rfl) (h := ?_)); clear T F; intro ac g w T F)
    | ((first | refine Sy.sx_plain (h := ?_) | refine Sy.sx_guard (T := T) (h := ?_)); (first | ((with_reducible refine Sy.ux_load ?_); (first | refine Sy.sx_val (Sy.rx_loadOne T F) T rfl ?_ | refine Sy.sx_val (Sy.rx_oldOne T F) T rfl ?_ | refine Sy.sx_val (Sy.rx_loadAll T F) T rfl ?_ | (refine Sy.sx_loadCut T F (h := ?_); conv => whnf) | refine Sy.sx_val (Sy.rx_oldAgg T F) T rfl ?_ | (refine Sy.sx_oldCut T F (h := ?_); conv => whnf)); clear T; intro ac T) | (refine Sy.sx_pure T (h := ?_); clear T; intro ac T)); show Sy.wpUx _ _ _ _ _ _ _ _ _)
    | ((first | refine Sy.sx_unguard (T := T) (h := ?_) | refine Sy.sx_unguardH (T := T) (h := ?_)); clear T; intro ac T)
    | (with_reducible refine Sy.sx_fork ?_ ?_)
    | (with_reducible refine Sy.sx_nil ?_)
    | (with_reducible refine Sy.sx_end ?_)
    | (with_reducible refine Sy.sx_tail rfl rfl (fun K hK => ?_))
    | ((first | refine Sy.sx_new (T := T) (F := F) (hr := Sy.new_boxAgg T rfl) (h := ?_) | refine Sy.sx_new (T := T) (F := F) (hr := Sy.new_boxOne T rfl rfl) (h := ?_) | refine Sy.sx_new (T := T) (F := F) (hr := Sy.new_alloc rfl) (h := ?_)); clear T F; intro ac g w T F)
    | ((first | refine Sy.sx_storeAll (T := T) (F := F) (h := ?_) | (refine Sy.sx_storeOne (T := T) (F := F) (h := ?_); conv => whnf) | (refine Sy.sx_storeAgg (T := T) (F := F) (h := ?_); conv => whnf)); clear T F; intro ac w T F))
    refine Sy.st_callV0 T F (hc := awake_any _) (h := ?_); (clear T F; intro ac w T F)
    repeat (first
    | (((with_reducible refine Sy.is_guard ?_); (first | refine Sy.st_guard T (h := ?_) | (refine Sy.st_unguard T (h := ?_); clear T; intro ac T))))
    | (((with_reducible refine Sy.is_load ?_); (first | refine Sy.st_loadOne T F (h := ?_) | refine Sy.st_oldOne T F (h := ?_) | refine Sy.st_loadAll T F (h := ?_) | (refine Sy.st_loadCut T F (h := ?_); conv => whnf) | refine Sy.st_oldAgg T F (h := ?_) | (refine Sy.st_oldCut T F (h := ?_); conv => whnf)); clear T; intro ac T))
    | (((with_reducible refine Sy.is_store ?_); (first | refine Sy.st_storeAll T F (h := ?_) | (refine Sy.st_storeOne T F (h := ?_); conv => whnf) | (refine Sy.st_storeAgg T F (h := ?_); conv => whnf)); clear T F; intro ac w T F))
    | (((with_reducible refine Sy.is_box ?_); (first | refine Sy.st_boxAgg T F (h := ?_) | refine Sy.st_boxOne T F (h := ?_)); clear T F; intro ac g w T F))
    | (((with_reducible refine Sy.is_alloc ?_); refine Sy.st_alloc T F (h := ?_); clear T F; intro ac g w T F))
    | (((with_reducible refine Sy.is_op ?_); refine Sy.st_pure T (h := ?_); clear T; intro ac T))
    | ((with_reducible refine Sy.atK (hK _ _ ?_)))
    | ((with_reducible refine Sy.is_cond ?_); (first | refine Sy.st_true T (h := ?_) | refine Sy.st_false T (h := ?_)))
    | (with_reducible refine wpList_nil ?_)
    | (with_reducible refine wp_region_lit ?_)
    | (with_reducible refine wp_block ?_)
    | (with_reducible refine wp_skip ?_)
    | (with_reducible refine wp_exit ?_)
    | (with_reducible refine wp_ret ?_)
    | ((with_reducible refine wp_seq_k ?_); intro _ _)
    | (go_at_K; go_step)
    | (simp only [Exit.then, Exit.inBlock, ↓reduceIte, Nat.reduceEqDiff])
    | ((with_reducible refine Sy.is_drawn (id := 10) ?_); refine Sy.sx_region F [] (.t 0 (.t 1 (.t 2 (.t 3 (.t 4 (.f 5 (.t 6 (.t 7 (.t 8 (.h 9 (.h 10 (.t 11 .e)))))) 9 (.h 5 (.t 6 (.t 7 (.t 8 (.h 10 (.t 11 .e)))))))))))) [] (by kernel_rfl) ?_; (clear F; intro w F))
    | ((first | refine Sy.sx_newX (i := 9) (T := T) (F := F) (hr := Sy.new_boxAgg T rfl) (h := ?_) | refine Sy.sx_newX (i := 9) (T := T) (F := F) (hr := Sy.new_boxOne T rfl rfl) (h := ?_) | refine Sy.sx_newX (i := 9) (T := T) (F := F) (hr := Sy.new_alloc rfl) (h := ?_)); clear T F; intro ac g w T F)
    | ((first | refine Sy.sx_plain (h := ?_) | refine Sy.sx_guard (T := T) (h := ?_)); (first | ((with_reducible refine Sy.ux_load ?_); (first | refine Sy.sx_val (Sy.rx_loadOne T F) T rfl ?_ | refine Sy.sx_val (Sy.rx_oldOne T F) T rfl ?_ | refine Sy.sx_val (Sy.rx_loadAll T F) T rfl ?_ | (refine Sy.sx_loadCut T F (h := ?_); conv => whnf) | refine Sy.sx_val (Sy.rx_oldAgg T F) T rfl ?_ | (refine Sy.sx_oldCut T F (h := ?_); conv => whnf)); clear T; intro ac T) | (refine Sy.sx_pure T (h := ?_); clear T; intro ac T)); show Sy.wpUx _ _ _ _ _ _ _ _ _)
    | ((first | refine Sy.sx_unguard (T := T) (h := ?_) | refine Sy.sx_unguardH (T := T) (h := ?_)); clear T; intro ac T)
    | (with_reducible refine Sy.sx_fork ?_ ?_)
    | (with_reducible refine Sy.sx_nil ?_)
    | (with_reducible refine Sy.sx_end ?_)
    | (with_reducible refine Sy.sx_tail rfl rfl (fun K hK => ?_))
    | ((first | refine Sy.sx_new (T := T) (F := F) (hr := Sy.new_boxAgg T rfl) (h := ?_) | refine Sy.sx_new (T := T) (F := F) (hr := Sy.new_boxOne T rfl rfl) (h := ?_) | refine Sy.sx_new (T := T) (F := F) (hr := Sy.new_alloc rfl) (h := ?_)); clear T F; intro ac g w T F)
    | ((first | refine Sy.sx_storeAll (T := T) (F := F) (h := ?_) | (refine Sy.sx_storeOne (T := T) (F := F) (h := ?_); conv => whnf) | (refine Sy.sx_storeAgg (T := T) (F := F) (h := ?_); conv => whnf)); clear T F; intro ac w T F))
    ((try simp only [Exit.inBlock, Exit.then]); refine Sy.st_ret1 T F rfl (by repeat (first | exact Sy.ResV.nil | apply Sy.ResV.tmp rfl | apply Sy.ResV.row rfl rfl rfl (by repeat (first | exact Sy.Take.here | apply Sy.Take.there)) (by rfl) | apply Sy.ResV.one rfl rfl rfl (by repeat (first | exact Sy.Take.here | apply Sy.Take.there)) (by rfl))) ?_)
    exact F.retV _
/-- the law's walk, as its frame wants it -/
theorem reconfPlaysW (w : World) (hT : Tabs w) (c : ConfD) (p : ConfA) (hc : ConfAt w c p) (node : UInt8) (a : Option Addr) (cap : Nat) (l : List ActD) (h : Rows ActR 6 w a l) :
    Calls Tryd.prog 3 #[.agg (confCs c p).toArray, .int .u8 (node.toNat : Int), .slice a l.length cap] w (RetBo w true) :=
  plays_any w hT hc node.toNat node.toNat_lt a cap l h
end Rc
end Go.Proofs.YtohhjbfkgokopaaDoor
