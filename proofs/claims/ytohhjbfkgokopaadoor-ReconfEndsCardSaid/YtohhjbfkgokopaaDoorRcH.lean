/- The walks of the laws' great, awake; what an act leaves. Conditions: the tables of math/bits stand in memory; what is handed in can be read. -/
import Derived.Test.YtohhjbfkgokopaaDoorRcG
namespace Go.Proofs.YtohhjbfkgokopaaDoor
open Go.RowKit
set_option linter.unusedVariables false
set_option linter.unusedSimpArgs false
namespace Rc
open Sy (RetV RetM Sub)
open Rg (eqT eqF i64_wrap i64_up retBb not_t not_f)
def actS (x : MoveD) (a : ActD) : MoveD := if a.kind = 0 then adoptS x a.node a.set else if a.kind = 1 then heardS x a.node a.keys a.f a.set else toldS x a.err
/-- what is kept of a move -/
def Inv (x : MoveD) : Prop := x.phase = 0 ∨ (mayC x.conf = true ∧ x.phase ≤ 4 ∧ (x.phase ≤ 3 → x.conf.c % 2 = 1))
def Up (x z : MoveD) : Prop := x.phase ≠ 0 → z.phase ≠ 0 → x.phase ≤ z.phase ∧ x.conf.c ≤ z.conf.c ∧ mayC z.conf = true
theorem step_odd {c c' : ConfD} {n : Nat} (ho : c.c % 2 = 1) (h : stepS c n = (c', 0)) : mayC c = true ∧ c'.c = c.c + 1 ∧ c'.new = c.new ∧ mayC c' = true := by
  cases hm : mayC c
  · rw [stepS_bad (.inl hm)] at h; cases h
  have hg : ¬ (c.c % 2 = 0 ∧ 64 ≤ n) := by omega
  obtain ⟨hr, hl⟩ := mayC_t hm
  have hn : newS c n = c.new := by unfold newS; rw [if_pos ho]
  have hne : newS c n ≠ [] := by rw [hn]; exact fun e => hl (by rw [e]; rfl)
  by_cases hf : 9223372036854775808 ≤ c.c
  · rw [stepS_full hm hg hne hf] at h; cases h
  rw [stepS_ok hm hg hne hf, if_pos ho, hn] at h
  simp only [Prod.mk.injEq, and_true] at h
  subst h
  refine ⟨rfl, rfl, rfl, ?_⟩
  rw [mayC_even (c := ⟨c.c + 1, [], c.new⟩) hr hl (show ¬ (c.c + 1) % 2 = 1 by omega)]
  rfl
theorem tog_pop {l : List Nat} {n : Nat} (hr : rise l = true) (hn : n < 64) : pop (setN l ^^^ setN (togL l n)) = 1 := by
  rw [others_pop hr (tog_rise l n), ← others_range _ hr, ← others_range _ (tog_rise l n), ← countP_xor]
  have h1 := ((rise_iff l).1 hr).1
  have e : (List.range 64).countP (fun i => decide (i ∈ l) != decide (i ∈ togL l n)) = (List.range 64).countP (fun i => decide (i = n)) := by
    refine List.countP_congr fun i hi => ?_
    have hi' := List.mem_range.1 hi
    have hm := mem_tog l n i
    by_cases ha : i ∈ l <;> by_cases hb : i = n <;> simp_all
  rw [e]
  rw [List.countP_eq_length_filter]
  have e2 : (List.range 64).filter (fun i => decide (i = n)) = [n] := by
    refine sorted_ext ((range_sorted 64).filter _) (List.pairwise_singleton _ _) fun i => ?_
    simp only [List.mem_filter, List.mem_range, decide_eq_true_eq, List.mem_singleton]
    exact ⟨fun h => h.2, fun h => ⟨by omega, h⟩⟩
  rw [e2]
  rfl
theorem step_even {c c' : ConfD} {n : Nat} (ho : ¬ c.c % 2 = 1) (h : stepS c n = (c', 0)) : c'.c = c.c + 1 ∧ c'.c % 2 = 1 ∧ mayC c' = true := by
  cases hm : mayC c
  · rw [stepS_bad (.inl hm)] at h; cases h
  obtain ⟨hr, hl⟩ := mayC_t hm
  by_cases hn : 64 ≤ n
  · rw [stepS_bad (.inr ⟨by omega, hn⟩)] at h; cases h
  have hg : ¬ (c.c % 2 = 0 ∧ 64 ≤ n) := by omega
  have hnw : newS c n = togL c.new n := by unfold newS; rw [if_neg ho]
  by_cases hne : newS c n = []
  · rw [stepS_nil hm hg hne] at h; cases h
  by_cases hf : 9223372036854775808 ≤ c.c
  · rw [stepS_full hm hg hne hf] at h; cases h
  rw [stepS_ok hm hg hne hf, if_neg ho, hnw] at h
  simp only [Prod.mk.injEq, and_true] at h
  subst h
  refine ⟨rfl, show (c.c + 1) % 2 = 1 by omega, ?_⟩
  rw [mayC_odd (c := ⟨c.c + 1, c.new, togL c.new n⟩) (tog_rise _ _) (show (togL c.new n).length ≠ 0 from fun e => hne (by rw [hnw]; exact List.eq_nil_of_length_eq_zero e)) (show (c.c + 1) % 2 = 1 by omega)]
  simp only [hr, tog_pop hr (by omega : n < 64)]
  simp
  omega
theorem stable_inv {x : MoveD} (ho : x.conf.c % 2 = 1) : Inv (stableS x) ∧ ((stableS x).phase ≠ 0 → (stableS x).phase = 4 ∧ (stableS x).conf.c = x.conf.c + 1 ∧ (stableS x).conf.new = x.conf.new ∧ mayC (stableS x).conf = true) := by
  by_cases hz : (stepS x.conf 0).2 = 0
  · obtain ⟨h1, h2, h3, h4⟩ := step_odd (c' := (stepS x.conf 0).1) ho (Prod.ext rfl hz : stepS x.conf 0 = ((stepS x.conf 0).1, 0))
    rw [stable_ok hz]
    exact ⟨.inr ⟨h4, by simp, by simp⟩, fun _ => ⟨rfl, h2, h3, h4⟩⟩
  · rw [stable_bad hz]
    exact ⟨.inl rfl, fun h => (h rfl).elim⟩
theorem act_inv {x : MoveD} (h : Inv x) (a : ActD) : Inv (actS x a) ∧ Up x (actS x a) := by
  have same : Inv x ∧ Up x x := by
    refine ⟨h, fun h0 _ => ?_⟩
    rcases h with h | ⟨h1, h2, h3⟩
    · exact (h0 h).elim
    · exact ⟨Nat.le_refl _, Nat.le_refl _, h1⟩
  have alike : ∀ y : MoveD, y.phase = x.phase → y.conf = x.conf → Inv y ∧ Up x y := fun y e1 e2 => by
    unfold Inv Up
    rw [e1, e2]
    exact same
  unfold actS
  split
  · unfold adoptS
    split
    · exact same
    rename_i hc
    split
    · exact alike _ rfl rfl
    split
    · exact ⟨.inl rfl, fun _ h => (h rfl).elim⟩
    · rename_i h4
      rcases h with h | ⟨h1, h2, h3⟩
      · omega
      · have hp : x.phase = 1 := by omega
        exact ⟨.inr ⟨h1, by simp, fun _ => h3 (by omega)⟩, fun _ _ => ⟨by simp; omega, Nat.le_refl _, h1⟩⟩
  split
  · unfold heardS
    split
    · exact same
    rename_i hc
    have hp : x.phase = 2 := by omega
    rcases h with h | ⟨h1, h2, h3⟩
    · omega
    split
    · exact alike _ rfl rfl
    split
    · have := stable_inv (x := { x with nodes := x.nodes ||| 2 ^ a.node, keys := x.keys ||| a.keys, fence := max x.fence a.f }) (h3 (by omega))
      refine ⟨this.1, fun _ hz => ?_⟩
      obtain ⟨k1, k2, k3, k4⟩ := this.2 hz
      exact ⟨by omega, by rw [k2]; simp, k4⟩
    · exact ⟨.inr ⟨h1, by simp, fun _ => h3 (by omega)⟩, fun _ _ => ⟨by simp; omega, Nat.le_refl _, h1⟩⟩
  · unfold toldS
    split
    · exact same
    rename_i hc
    have hw : (wantsS x).2 = true := by cases hw : (wantsS x).2 <;> simp_all
    have hp : x.phase = 3 := by
      unfold wantsS at hw
      split at hw
      · rename_i hh; exact hh.1
      · cases hw
    rcases h with h | ⟨h1, h2, h3⟩
    · omega
    split
    · have := stable_inv (x := { x with keys := dif x.keys (2 ^ low 16 x.keys) }) (h3 (by omega))
      refine ⟨this.1, fun _ hz => ?_⟩
      obtain ⟨k1, k2, k3, k4⟩ := this.2 hz
      exact ⟨by omega, by rw [k2]; simp, k4⟩
    · exact alike _ rfl rfl
theorem begin_inv (c : ConfD) (node : Nat) : Inv (beginS c node).1 := by
  unfold beginS
  split
  · exact .inl rfl
  rename_i ho
  split
  · exact .inl rfl
  rename_i hz
  obtain ⟨h1, h2, h3⟩ := step_even (c' := (stepS c node).1) (n := node) ho (Prod.ext rfl (Decidable.not_not.1 hz) : stepS c node = ((stepS c node).1, 0))
  exact .inr ⟨h3, by simp, fun _ => h2⟩

/-! the walks -/
def greatC (c : ConfD) : Bool := decide (80 < c.old.length) || decide (80 < c.new.length)
set_option maxRecDepth 20000 in
theorem great_any (w0 : World) (c : ConfD) (p : ConfA) : Calls Tryd.prog 5 #[.agg (confCs c p).toArray] w0 (RetV w0 (.bool (greatC c))) := by
  have F := Sy.Mem.start (Sub.refl w0)
  have e2 : decide ((c.new.length : Int) > 80) = decide (80 < c.new.length) := by simp; omega
  by_cases h : 80 < c.old.length
  · have v1 : decide ((c.old.length : Int) > 80) = true := decide_eq_true (by omega)
    refine Sy.enter Tryd.func5 rfl Tryd.ntmps5 rfl ?_; intro ac T; simp only [Sy.enum, Nat.zero_add, Nat.reduceAdd] at T
    repeat (first
    | (((with_reducible refine Sy.is_guard ?_); (first | refine Sy.st_guard T (h := ?_) | (refine Sy.st_unguard T (h := ?_); clear T; intro ac T))))
    | (((with_reducible refine Sy.is_load ?_); (first | refine Sy.st_loadOne T F (h := ?_) | refine Sy.st_oldOne T F (h := ?_) | refine Sy.st_loadAll T F (h := ?_) | (refine Sy.st_loadCut T F (h := ?_); conv => whnf) | refine Sy.st_oldAgg T F (h := ?_) | (refine Sy.st_oldCut T F (h := ?_); conv => whnf)); clear T; intro ac T))
    | (((with_reducible refine Sy.is_box ?_); (first | refine Sy.st_boxAgg T F (h := ?_) | refine Sy.st_boxOne T F (h := ?_)); clear T F; intro ac g w T F))
    | (((with_reducible refine Sy.is_op ?_); refine Sy.st_pure T (h := ?_); clear T; intro ac T))
    | ((with_reducible refine Sy.atK (hK _ _ ?_)))
    | ((with_reducible refine Sy.is_cond ?_); (first | refine Sy.st_true T (h := ?_) | refine Sy.st_false T (h := ?_)))
    | (with_reducible refine wpList_nil ?_)
    | (with_reducible refine wp_region_lit ?_)
    | (with_reducible refine wp_block ?_)
    | (with_reducible refine wp_skip ?_)
    | (with_reducible refine wp_exit ?_)
    | (with_reducible refine wp_ret ?_)
    | ((with_reducible refine wp_seq_k ?_); intro _ _)
    | (go_at_K; go_step)
    | (simp only [Exit.then, Exit.inBlock, ↓reduceIte, Nat.reduceEqDiff]))
    ((try simp only [Exit.inBlock, Exit.then]); refine Sy.st_ret1 T F rfl (by repeat (first | exact Sy.ResV.nil | apply Sy.ResV.tmp rfl | apply Sy.ResV.row rfl rfl rfl (by repeat (first | exact Sy.Take.here | apply Sy.Take.there)) (by rfl) | apply Sy.ResV.one rfl rfl rfl (by repeat (first | exact Sy.Take.here | apply Sy.Take.there)) (by rfl))) ?_)
    exact retBb F (by unfold greatC; rw [decide_eq_true h]; rfl)
  · have v1 : decide ((c.old.length : Int) > 80) = false := decide_eq_false (by omega)
    refine Sy.enter Tryd.func5 rfl Tryd.ntmps5 rfl ?_; intro ac T; simp only [Sy.enum, Nat.zero_add, Nat.reduceAdd] at T
    repeat (first
    | (((with_reducible refine Sy.is_guard ?_); (first | refine Sy.st_guard T (h := ?_) | (refine Sy.st_unguard T (h := ?_); clear T; intro ac T))))
    | (((with_reducible refine Sy.is_load ?_); (first | refine Sy.st_loadOne T F (h := ?_) | refine Sy.st_oldOne T F (h := ?_) | refine Sy.st_loadAll T F (h := ?_) | (refine Sy.st_loadCut T F (h := ?_); conv => whnf) | refine Sy.st_oldAgg T F (h := ?_) | (refine Sy.st_oldCut T F (h := ?_); conv => whnf)); clear T; intro ac T))
    | (((with_reducible refine Sy.is_box ?_); (first | refine Sy.st_boxAgg T F (h := ?_) | refine Sy.st_boxOne T F (h := ?_)); clear T F; intro ac g w T F))
    | (((with_reducible refine Sy.is_op ?_); refine Sy.st_pure T (h := ?_); clear T; intro ac T))
    | ((with_reducible refine Sy.atK (hK _ _ ?_)))
    | ((with_reducible refine Sy.is_cond ?_); (first | refine Sy.st_true T (h := ?_) | refine Sy.st_false T (h := ?_)))
    | (with_reducible refine wpList_nil ?_)
    | (with_reducible refine wp_region_lit ?_)
    | (with_reducible refine wp_block ?_)
    | (with_reducible refine wp_skip ?_)
    | (with_reducible refine wp_exit ?_)
    | (with_reducible refine wp_ret ?_)
    | ((with_reducible refine wp_seq_k ?_); intro _ _)
    | (go_at_K; go_step)
    | (simp only [Exit.then, Exit.inBlock, ↓reduceIte, Nat.reduceEqDiff]))
    ((try simp only [Exit.inBlock, Exit.then]); refine Sy.st_ret1 T F rfl (by repeat (first | exact Sy.ResV.nil | apply Sy.ResV.tmp rfl | apply Sy.ResV.row rfl rfl rfl (by repeat (first | exact Sy.Take.here | apply Sy.Take.there)) (by rfl) | apply Sy.ResV.one rfl rfl rfl (by repeat (first | exact Sy.Take.here | apply Sy.Take.there)) (by rfl))) ?_)
    exact retBb F (by unfold greatC; rw [decide_eq_false h]; rfl)
def exC : ConfD := ⟨0, [], [1]⟩
theorem ex_begin : beginS exC 2 = (⟨1, ⟨1, [1], [1, 2]⟩, 0, 0, 0⟩, 0) := by decide +kernel
theorem ex_adopt : adoptS ⟨1, ⟨1, [1], [1, 2]⟩, 0, 0, 0⟩ 1 2 = ⟨2, ⟨1, [1], [1, 2]⟩, 0, 0, 0⟩ := by decide +kernel
theorem ex_heard : heardS ⟨2, ⟨1, [1], [1, 2]⟩, 0, 0, 0⟩ 1 0 7 2 = ⟨4, ⟨2, [], [1, 2]⟩, 0, 0, 7⟩ := by decide +kernel
set_option maxRecDepth 20000 in
theorem awake_any (w0 : World) : Calls Tryd.prog 6 #[] w0 (RetV w0 (.bool true)) := by
  have F := Sy.Mem.start (Sub.refl w0)
  refine Sy.enter Tryd.func6 rfl Tryd.ntmps6 rfl ?_; intro ac T; simp only [Sy.enum, Nat.zero_add, Nat.reduceAdd] at T
  repeat (first
    | (((with_reducible refine Sy.is_guard ?_); (first | refine Sy.st_guard T (h := ?_) | (refine Sy.st_unguard T (h := ?_); clear T; intro ac T))))
    | (((with_reducible refine Sy.is_load ?_); (first | refine Sy.st_loadOne T F (h := ?_) | refine Sy.st_oldOne T F (h := ?_) | refine Sy.st_loadAll T F (h := ?_) | (refine Sy.st_loadCut T F (h := ?_); conv => whnf) | refine Sy.st_oldAgg T F (h := ?_) | (refine Sy.st_oldCut T F (h := ?_); conv => whnf)); clear T; intro ac T))
    | (((with_reducible refine Sy.is_store ?_); (first | refine Sy.st_storeAll T F (h := ?_) | (refine Sy.st_storeOne T F (h := ?_); conv => whnf) | (refine Sy.st_storeAgg T F (h := ?_); conv => whnf)); clear T F; intro ac w T F))
    | (((with_reducible refine Sy.is_alloc ?_); refine Sy.st_alloc T F (h := ?_); clear T F; intro ac g w T F))
    | (((with_reducible refine Sy.is_build ?_); refine Sy.st_build T (h := ?_); (conv => whnf); (repeat (refine ⟨by first | exact rfl | exact ⟨rfl, rfl⟩, ?_⟩; (conv => whnf))); clear T; intro ac T))
    | (((with_reducible refine Sy.is_buildSlice ?_); refine Sy.st_buildSlice T F (h := ?_); (conv => whnf); (repeat (refine ⟨by first | exact rfl | exact ⟨rfl, rfl⟩, ?_⟩; (conv => whnf))); clear T F; intro ac g w T F))
    | (((with_reducible refine Sy.is_op ?_); refine Sy.st_pure T (h := ?_); clear T; intro ac T))
    | ((with_reducible refine Sy.atK (hK _ _ ?_)))
    | ((with_reducible refine Sy.is_cond ?_); (first | refine Sy.st_true T (h := ?_) | refine Sy.st_false T (h := ?_)))
    | (with_reducible refine wpList_nil ?_)
    | (with_reducible refine wp_region_lit ?_)
    | (with_reducible refine wp_block ?_)
    | (with_reducible refine wp_skip ?_)
    | (with_reducible refine wp_exit ?_)
    | (with_reducible refine wp_ret ?_)
    | ((with_reducible refine wp_seq_k ?_); intro _ _)
    | (go_at_K; go_step)
    | (simp only [Exit.then, Exit.inBlock, ↓reduceIte, Nat.reduceEqDiff]))
  replace F := F.takeSl Sy.Take.here (n := 1) (size := 1) rfl (by decide)
  obtain ⟨m1, hs1, F, hc1⟩ := F.freeze
  have hx : ConfAt m1 exC ⟨none, 0, some ⟨g, 0, none⟩, 1⟩ := ⟨by decide, Rows.nil _ _ _ _, nod_of (hc1 _ _ rfl) (by decide) (by intro x hx; simp [exC] at hx; omega)⟩
  have G := begin_any F.sub hx 2 (by decide)
  rw [ex_begin] at G
  refine Sy.st_callM0 T F (hc := G) (h := ?_); (clear T F; intro v m ac w hR hS T F)
  obtain ⟨q, rfl, hq⟩ := hR
  repeat (first
    | (((with_reducible refine Sy.is_guard ?_); (first | refine Sy.st_guard T (h := ?_) | (refine Sy.st_unguard T (h := ?_); clear T; intro ac T))))
    | (((with_reducible refine Sy.is_load ?_); (first | refine Sy.st_loadOne T F (h := ?_) | refine Sy.st_oldOne T F (h := ?_) | refine Sy.st_loadAll T F (h := ?_) | (refine Sy.st_loadCut T F (h := ?_); conv => whnf) | refine Sy.st_oldAgg T F (h := ?_) | (refine Sy.st_oldCut T F (h := ?_); conv => whnf)); clear T; intro ac T))
    | (((with_reducible refine Sy.is_store ?_); (first | refine Sy.st_storeAll T F (h := ?_) | (refine Sy.st_storeOne T F (h := ?_); conv => whnf) | (refine Sy.st_storeAgg T F (h := ?_); conv => whnf)); clear T F; intro ac w T F))
    | (((with_reducible refine Sy.is_alloc ?_); refine Sy.st_alloc T F (h := ?_); clear T F; intro ac g w T F))
    | (((with_reducible refine Sy.is_build ?_); refine Sy.st_build T (h := ?_); (conv => whnf); (repeat (refine ⟨by first | exact rfl | exact ⟨rfl, rfl⟩, ?_⟩; (conv => whnf))); clear T; intro ac T))
    | (((with_reducible refine Sy.is_buildSlice ?_); refine Sy.st_buildSlice T F (h := ?_); (conv => whnf); (repeat (refine ⟨by first | exact rfl | exact ⟨rfl, rfl⟩, ?_⟩; (conv => whnf))); clear T F; intro ac g w T F))
    | (((with_reducible refine Sy.is_op ?_); refine Sy.st_pure T (h := ?_); clear T; intro ac T))
    | ((with_reducible refine Sy.atK (hK _ _ ?_)))
    | ((with_reducible refine Sy.is_cond ?_); (first | refine Sy.st_true T (h := ?_) | refine Sy.st_false T (h := ?_)))
    | (with_reducible refine wpList_nil ?_)
    | (with_reducible refine wp_region_lit ?_)
    | (with_reducible refine wp_block ?_)
    | (with_reducible refine wp_skip ?_)
    | (with_reducible refine wp_exit ?_)
    | (with_reducible refine wp_ret ?_)
    | ((with_reducible refine wp_seq_k ?_); intro _ _)
    | (go_at_K; go_step)
    | (simp only [Exit.then, Exit.inBlock, ↓reduceIte, Nat.reduceEqDiff]))
  have G := adopt_any F.sub hq 1 (by decide) 2 (by decide)
  rw [ex_adopt] at G
  refine Sy.st_callM0 T F (hc := G) (h := ?_); (clear T F; intro v m ac w hR hS T F)
  obtain ⟨q2, rfl, hq2⟩ := hR
  repeat (first
    | (((with_reducible refine Sy.is_guard ?_); (first | refine Sy.st_guard T (h := ?_) | (refine Sy.st_unguard T (h := ?_); clear T; intro ac T))))
    | (((with_reducible refine Sy.is_load ?_); (first | refine Sy.st_loadOne T F (h := ?_) | refine Sy.st_oldOne T F (h := ?_) | refine Sy.st_loadAll T F (h := ?_) | (refine Sy.st_loadCut T F (h := ?_); conv => whnf) | refine Sy.st_oldAgg T F (h := ?_) | (refine Sy.st_oldCut T F (h := ?_); conv => whnf)); clear T; intro ac T))
    | (((with_reducible refine Sy.is_store ?_); (first | refine Sy.st_storeAll T F (h := ?_) | (refine Sy.st_storeOne T F (h := ?_); conv => whnf) | (refine Sy.st_storeAgg T F (h := ?_); conv => whnf)); clear T F; intro ac w T F))
    | (((with_reducible refine Sy.is_alloc ?_); refine Sy.st_alloc T F (h := ?_); clear T F; intro ac g w T F))
    | (((with_reducible refine Sy.is_build ?_); refine Sy.st_build T (h := ?_); (conv => whnf); (repeat (refine ⟨by first | exact rfl | exact ⟨rfl, rfl⟩, ?_⟩; (conv => whnf))); clear T; intro ac T))
    | (((with_reducible refine Sy.is_buildSlice ?_); refine Sy.st_buildSlice T F (h := ?_); (conv => whnf); (repeat (refine ⟨by first | exact rfl | exact ⟨rfl, rfl⟩, ?_⟩; (conv => whnf))); clear T F; intro ac g w T F))
    | (((with_reducible refine Sy.is_op ?_); refine Sy.st_pure T (h := ?_); clear T; intro ac T))
    | ((with_reducible refine Sy.atK (hK _ _ ?_)))
    | ((with_reducible refine Sy.is_cond ?_); (first | refine Sy.st_true T (h := ?_) | refine Sy.st_false T (h := ?_)))
    | (with_reducible refine wpList_nil ?_)
    | (with_reducible refine wp_region_lit ?_)
    | (with_reducible refine wp_block ?_)
    | (with_reducible refine wp_skip ?_)
    | (with_reducible refine wp_exit ?_)
    | (with_reducible refine wp_ret ?_)
    | ((with_reducible refine wp_seq_k ?_); intro _ _)
    | (go_at_K; go_step)
    | (simp only [Exit.then, Exit.inBlock, ↓reduceIte, Nat.reduceEqDiff]))
  have G := heard_any F.sub hq2 1 (by decide) 0 (by decide) 7 (by decide) 2 (by decide)
  rw [ex_heard] at G
  refine Sy.st_callM0 T F (hc := G) (h := ?_); (clear T F; intro v m ac w hR hS T F)
  obtain ⟨q3, rfl, hq3⟩ := hR
  repeat (first
    | (((with_reducible refine Sy.is_guard ?_); (first | refine Sy.st_guard T (h := ?_) | (refine Sy.st_unguard T (h := ?_); clear T; intro ac T))))
    | (((with_reducible refine Sy.is_load ?_); (first | refine Sy.st_loadOne T F (h := ?_) | refine Sy.st_oldOne T F (h := ?_) | refine Sy.st_loadAll T F (h := ?_) | (refine Sy.st_loadCut T F (h := ?_); conv => whnf) | refine Sy.st_oldAgg T F (h := ?_) | (refine Sy.st_oldCut T F (h := ?_); conv => whnf)); clear T; intro ac T))
    | (((with_reducible refine Sy.is_store ?_); (first | refine Sy.st_storeAll T F (h := ?_) | (refine Sy.st_storeOne T F (h := ?_); conv => whnf) | (refine Sy.st_storeAgg T F (h := ?_); conv => whnf)); clear T F; intro ac w T F))
    | (((with_reducible refine Sy.is_alloc ?_); refine Sy.st_alloc T F (h := ?_); clear T F; intro ac g w T F))
    | (((with_reducible refine Sy.is_build ?_); refine Sy.st_build T (h := ?_); (conv => whnf); (repeat (refine ⟨by first | exact rfl | exact ⟨rfl, rfl⟩, ?_⟩; (conv => whnf))); clear T; intro ac T))
    | (((with_reducible refine Sy.is_buildSlice ?_); refine Sy.st_buildSlice T F (h := ?_); (conv => whnf); (repeat (refine ⟨by first | exact rfl | exact ⟨rfl, rfl⟩, ?_⟩; (conv => whnf))); clear T F; intro ac g w T F))
    | (((with_reducible refine Sy.is_op ?_); refine Sy.st_pure T (h := ?_); clear T; intro ac T))
    | ((with_reducible refine Sy.atK (hK _ _ ?_)))
    | ((with_reducible refine Sy.is_cond ?_); (first | refine Sy.st_true T (h := ?_) | refine Sy.st_false T (h := ?_)))
    | (with_reducible refine wpList_nil ?_)
    | (with_reducible refine wp_region_lit ?_)
    | (with_reducible refine wp_block ?_)
    | (with_reducible refine wp_skip ?_)
    | (with_reducible refine wp_exit ?_)
    | (with_reducible refine wp_ret ?_)
    | ((with_reducible refine wp_seq_k ?_); intro _ _)
    | (go_at_K; go_step)
    | (simp only [Exit.then, Exit.inBlock, ↓reduceIte, Nat.reduceEqDiff]))
  ((try simp only [Exit.inBlock, Exit.then]); refine Sy.st_ret1 T F rfl (by repeat (first | exact Sy.ResV.nil | apply Sy.ResV.tmp rfl | apply Sy.ResV.row rfl rfl rfl (by repeat (first | exact Sy.Take.here | apply Sy.Take.there)) (by rfl) | apply Sy.ResV.one rfl rfl rfl (by repeat (first | exact Sy.Take.here | apply Sy.Take.there)) (by rfl))) ?_)
  exact F.retV _
end Rc
end Go.Proofs.YtohhjbfkgokopaaDoor
