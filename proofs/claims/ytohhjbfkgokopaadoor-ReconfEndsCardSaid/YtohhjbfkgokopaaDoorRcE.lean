/- The walk of the document's step of a configuration. Conditions: what is handed in can be read. -/
import Derived.Test.YtohhjbfkgokopaaDoorRcC
namespace Go.Proofs.YtohhjbfkgokopaaDoor
open Go.RowKit
set_option linter.unusedVariables false
set_option linter.unusedSimpArgs false
namespace Rc
open Sy (RetV RetM Sub)
open Rg (eqT eqF i64_wrap i64_up retBb not_t not_f)
theorem u8_up {k : Nat} (h : k < 255) : IntKind.u8.wrap ((k : Int) + 1) = ((k + 1 : Nat) : Int) := by rw [IntKind.wrap_u8]; omega
theorem cells_ownB {w : World} {g : Nat} {cs : List Value} {t : TypeId} (h : w.heap[g]? = some (.cells cs.toArray t (0, 0))) : Cells w (some ⟨g, 0, none⟩) cs := .inr ⟨g, 0, rfl, fun i hi => by rw [Nat.zero_add]; simp [World.cell?, h]⟩
def keepB (l : List Nat) (n i : Nat) : Bool := decide (i ∈ l) != decide (i = n)
def togK (l : List Nat) (n k : Nat) : List Nat := (List.range k).filter (keepB l n)
theorem togK_up (l : List Nat) (n k : Nat) : togK l n (k + 1) = togK l n k ++ (if keepB l n k then [k] else []) := by
  unfold togK
  rw [List.range_succ, List.filter_append]
  congr 1
  rw [List.filter_cons, List.filter_nil]
theorem togK_len (l : List Nat) (n k : Nat) : (togK l n k).length ≤ k := Nat.le_trans (List.length_filter_le _ _) (by simp)
set_option maxRecDepth 20000 in
set_option maxHeartbeats 4000000 in
theorem stepR_any {w0 m : World} (hs0 : Sub m w0) {c : ConfD} {p : ConfA} (h : ConfAt m c p) (node : Nat) (hn8 : node < 256) :
    Calls Tryd.prog 19 #[.agg (confCs c p).toArray, .int .u8 (node : Int)] w0 (RetM m w0 (ConfT (stepS c node).1 ((stepS c node).2 : Int))) := by
  have F := Sy.Mem.start hs0
  have G1 := fun w' (hs : Sub m w') => mayR_any w' (h.sub hs)
  obtain ⟨oa, oc, na, nc⟩ := p
  have v9 := mod2 c.c
  have hB := Tryd.underlying4
  cases hm : mayC c
  · rw [hm] at G1
    refine Sy.enter Tryd.func19 rfl Tryd.ntmps19 rfl ?_; intro ac T; simp only [Sy.enum, Nat.zero_add, Nat.reduceAdd] at T
    repeat (first
    | (((with_reducible refine Sy.is_guard ?_); (first | refine Sy.st_guard T (h := ?_) | (refine Sy.st_unguard T (h := ?_); clear T; intro ac T))))
    | (((with_reducible refine Sy.is_load ?_); (first | refine Sy.st_loadOne T F (h := ?_) | refine Sy.st_oldOne T F (h := ?_) | refine Sy.st_loadAll T F (h := ?_) | (refine Sy.st_loadCut T F (h := ?_); conv => whnf) | refine Sy.st_oldAgg T F (h := ?_) | (refine Sy.st_oldCut T F (h := ?_); conv => whnf)); clear T; intro ac T))
    | (((with_reducible refine Sy.is_store ?_); (first | refine Sy.st_storeAll T F (h := ?_) | (refine Sy.st_storeOne T F (h := ?_); conv => whnf) | (refine Sy.st_storeAgg T F (h := ?_); conv => whnf)); clear T F; intro ac w T F))
    | (((with_reducible refine Sy.is_box ?_); (first | refine Sy.st_boxAgg T F (h := ?_) | refine Sy.st_boxOne T F (h := ?_)); clear T F; intro ac g w T F))
    | (((with_reducible refine Sy.is_alloc ?_); refine Sy.st_alloc T F (h := ?_); clear T F; intro ac g w T F))
    | (((with_reducible refine Sy.is_build ?_); refine Sy.st_build T (h := ?_); (conv => whnf); (repeat (refine ⟨by first | exact rfl | exact ⟨rfl, rfl⟩, ?_⟩; (conv => whnf))); clear T; intro ac T))
    | (((with_reducible refine Sy.is_buildSlice ?_); refine Sy.st_buildSlice T F (h := ?_); (conv => whnf); (repeat (refine ⟨by first | exact rfl | exact ⟨rfl, rfl⟩, ?_⟩; (conv => whnf))); clear T F; intro ac g w T F))
    | (((with_reducible refine Sy.is_op ?_); refine Sy.st_pure T (h := ?_); clear T; intro ac T))
    | ((with_reducible refine Sy.atK (hK _ _ ?_)))
    | ((with_reducible refine Sy.is_cond ?_); (first | refine Sy.st_true T (h := ?_) | refine Sy.st_false T (h := ?_)))
    | (with_reducible refine wpList_nil ?_)
    | (with_reducible refine wp_region_lit ?_)
    | (with_reducible refine wp_block ?_)
    | (with_reducible refine wp_skip ?_)
    | (with_reducible refine wp_exit ?_)
    | (with_reducible refine wp_ret ?_)
    | ((with_reducible refine wp_seq_k ?_); intro _ _)
    | (go_at_K; go_step)
    | (simp only [Exit.then, Exit.inBlock, ↓reduceIte, Nat.reduceEqDiff]))
    refine Sy.st_callV0 T F (hc := G1 _ F.sub) (h := ?_); (clear T F; intro ac w T F)
    repeat (first
    | (((with_reducible refine Sy.is_guard ?_); (first | refine Sy.st_guard T (h := ?_) | (refine Sy.st_unguard T (h := ?_); clear T; intro ac T))))
    | (((with_reducible refine Sy.is_load ?_); (first | refine Sy.st_loadOne T F (h := ?_) | refine Sy.st_oldOne T F (h := ?_) | refine Sy.st_loadAll T F (h := ?_) | (refine Sy.st_loadCut T F (h := ?_); conv => whnf) | refine Sy.st_oldAgg T F (h := ?_) | (refine Sy.st_oldCut T F (h := ?_); conv => whnf)); clear T; intro ac T))
    | (((with_reducible refine Sy.is_store ?_); (first | refine Sy.st_storeAll T F (h := ?_) | (refine Sy.st_storeOne T F (h := ?_); conv => whnf) | (refine Sy.st_storeAgg T F (h := ?_); conv => whnf)); clear T F; intro ac w T F))
    | (((with_reducible refine Sy.is_box ?_); (first | refine Sy.st_boxAgg T F (h := ?_) | refine Sy.st_boxOne T F (h := ?_)); clear T F; intro ac g w T F))
    | (((with_reducible refine Sy.is_alloc ?_); refine Sy.st_alloc T F (h := ?_); clear T F; intro ac g w T F))
    | (((with_reducible refine Sy.is_build ?_); refine Sy.st_build T (h := ?_); (conv => whnf); (repeat (refine ⟨by first | exact rfl | exact ⟨rfl, rfl⟩, ?_⟩; (conv => whnf))); clear T; intro ac T))
    | (((with_reducible refine Sy.is_buildSlice ?_); refine Sy.st_buildSlice T F (h := ?_); (conv => whnf); (repeat (refine ⟨by first | exact rfl | exact ⟨rfl, rfl⟩, ?_⟩; (conv => whnf))); clear T F; intro ac g w T F))
    | (((with_reducible refine Sy.is_op ?_); refine Sy.st_pure T (h := ?_); clear T; intro ac T))
    | ((with_reducible refine Sy.atK (hK _ _ ?_)))
    | ((with_reducible refine Sy.is_cond ?_); (first | refine Sy.st_true T (h := ?_) | refine Sy.st_false T (h := ?_)))
    | (with_reducible refine wpList_nil ?_)
    | (with_reducible refine wp_region_lit ?_)
    | (with_reducible refine wp_block ?_)
    | (with_reducible refine wp_skip ?_)
    | (with_reducible refine wp_exit ?_)
    | (with_reducible refine wp_ret ?_)
    | ((with_reducible refine wp_seq_k ?_); intro _ _)
    | (go_at_K; go_step)
    | (simp only [Exit.then, Exit.inBlock, ↓reduceIte, Nat.reduceEqDiff]))
    ((try simp only [Exit.inBlock, Exit.then]); refine Sy.st_ret2 T F rfl (by repeat (first | exact Sy.ResV.nil | apply Sy.ResV.tmp rfl | apply Sy.ResV.row rfl rfl rfl (by repeat (first | exact Sy.Take.here | apply Sy.Take.there)) (by rfl) | apply Sy.ResV.one rfl rfl rfl (by repeat (first | exact Sy.Take.here | apply Sy.Take.there)) (by rfl))) ?_)
    exact F.retM ⟨zeroConfA, by rw [stepS_bad (.inl hm)]; rfl, by rw [stepS_bad (.inl hm)]; exact zeroConf_at _⟩
  rw [hm] at G1
  obtain ⟨hr, hl0⟩ := mayC_t hm
  have hl64 := rise_len hr
  have hlt := ((rise_iff _).1 hr).1
  have wC := add_u64 c.c 1
  by_cases hb : c.c % 2 = 1
  · have v1 := eqF (a := ((c.c % 2 : Nat) : Int)) (b := 0) (by omega)
    have v2 := eqT (a := ((c.c % 2 : Nat) : Int)) (b := 1) (by omega)
    have hg : ¬ (c.c % 2 = 0 ∧ 64 ≤ node) := by omega
    have hnew : newS c node = c.new := by unfold newS; rw [if_pos hb]
    have hne : newS c node ≠ [] := by rw [hnew]; exact fun e => hl0 (by rw [e]; rfl)
    by_cases hf : 9223372036854775808 ≤ c.c
    · have v8 : decide ((c.c : Int) ≥ 9223372036854775808) = true := decide_eq_true (by omega)
      refine Sy.enter Tryd.func19 rfl Tryd.ntmps19 rfl ?_; intro ac T; simp only [Sy.enum, Nat.zero_add, Nat.reduceAdd] at T
      repeat (first
    | (((with_reducible refine Sy.is_guard ?_); (first | refine Sy.st_guard T (h := ?_) | (refine Sy.st_unguard T (h := ?_); clear T; intro ac T))))
    | (((with_reducible refine Sy.is_load ?_); (first | refine Sy.st_loadOne T F (h := ?_) | refine Sy.st_oldOne T F (h := ?_) | refine Sy.st_loadAll T F (h := ?_) | (refine Sy.st_loadCut T F (h := ?_); conv => whnf) | refine Sy.st_oldAgg T F (h := ?_) | (refine Sy.st_oldCut T F (h := ?_); conv => whnf)); clear T; intro ac T))
    | (((with_reducible refine Sy.is_store ?_); (first | refine Sy.st_storeAll T F (h := ?_) | (refine Sy.st_storeOne T F (h := ?_); conv => whnf) | (refine Sy.st_storeAgg T F (h := ?_); conv => whnf)); clear T F; intro ac w T F))
    | (((with_reducible refine Sy.is_box ?_); (first | refine Sy.st_boxAgg T F (h := ?_) | refine Sy.st_boxOne T F (h := ?_)); clear T F; intro ac g w T F))
    | (((with_reducible refine Sy.is_alloc ?_); refine Sy.st_alloc T F (h := ?_); clear T F; intro ac g w T F))
    | (((with_reducible refine Sy.is_build ?_); refine Sy.st_build T (h := ?_); (conv => whnf); (repeat (refine ⟨by first | exact rfl | exact ⟨rfl, rfl⟩, ?_⟩; (conv => whnf))); clear T; intro ac T))
    | (((with_reducible refine Sy.is_buildSlice ?_); refine Sy.st_buildSlice T F (h := ?_); (conv => whnf); (repeat (refine ⟨by first | exact rfl | exact ⟨rfl, rfl⟩, ?_⟩; (conv => whnf))); clear T F; intro ac g w T F))
    | (((with_reducible refine Sy.is_op ?_); refine Sy.st_pure T (h := ?_); clear T; intro ac T))
    | ((with_reducible refine Sy.atK (hK _ _ ?_)))
    | ((with_reducible refine Sy.is_cond ?_); (first | refine Sy.st_true T (h := ?_) | refine Sy.st_false T (h := ?_)))
    | (with_reducible refine wpList_nil ?_)
    | (with_reducible refine wp_region_lit ?_)
    | (with_reducible refine wp_block ?_)
    | (with_reducible refine wp_skip ?_)
    | (with_reducible refine wp_exit ?_)
    | (with_reducible refine wp_ret ?_)
    | ((with_reducible refine wp_seq_k ?_); intro _ _)
    | (go_at_K; go_step)
    | (simp only [Exit.then, Exit.inBlock, ↓reduceIte, Nat.reduceEqDiff]))
      refine Sy.st_callV0 T F (hc := G1 _ F.sub) (h := ?_); (clear T F; intro ac w T F)
      repeat (first
    | (((with_reducible refine Sy.is_guard ?_); (first | refine Sy.st_guard T (h := ?_) | (refine Sy.st_unguard T (h := ?_); clear T; intro ac T))))
    | (((with_reducible refine Sy.is_load ?_); (first | refine Sy.st_loadOne T F (h := ?_) | refine Sy.st_oldOne T F (h := ?_) | refine Sy.st_loadAll T F (h := ?_) | (refine Sy.st_loadCut T F (h := ?_); conv => whnf) | refine Sy.st_oldAgg T F (h := ?_) | (refine Sy.st_oldCut T F (h := ?_); conv => whnf)); clear T; intro ac T))
    | (((with_reducible refine Sy.is_store ?_); (first | refine Sy.st_storeAll T F (h := ?_) | (refine Sy.st_storeOne T F (h := ?_); conv => whnf) | (refine Sy.st_storeAgg T F (h := ?_); conv => whnf)); clear T F; intro ac w T F))
    | (((with_reducible refine Sy.is_box ?_); (first | refine Sy.st_boxAgg T F (h := ?_) | refine Sy.st_boxOne T F (h := ?_)); clear T F; intro ac g w T F))
    | (((with_reducible refine Sy.is_alloc ?_); refine Sy.st_alloc T F (h := ?_); clear T F; intro ac g w T F))
    | (((with_reducible refine Sy.is_build ?_); refine Sy.st_build T (h := ?_); (conv => whnf); (repeat (refine ⟨by first | exact rfl | exact ⟨rfl, rfl⟩, ?_⟩; (conv => whnf))); clear T; intro ac T))
    | (((with_reducible refine Sy.is_buildSlice ?_); refine Sy.st_buildSlice T F (h := ?_); (conv => whnf); (repeat (refine ⟨by first | exact rfl | exact ⟨rfl, rfl⟩, ?_⟩; (conv => whnf))); clear T F; intro ac g w T F))
    | (((with_reducible refine Sy.is_op ?_); refine Sy.st_pure T (h := ?_); clear T; intro ac T))
    | ((with_reducible refine Sy.atK (hK _ _ ?_)))
    | ((with_reducible refine Sy.is_cond ?_); (first | refine Sy.st_true T (h := ?_) | refine Sy.st_false T (h := ?_)))
    | (with_reducible refine wpList_nil ?_)
    | (with_reducible refine wp_region_lit ?_)
    | (with_reducible refine wp_block ?_)
    | (with_reducible refine wp_skip ?_)
    | (with_reducible refine wp_exit ?_)
    | (with_reducible refine wp_ret ?_)
    | ((with_reducible refine wp_seq_k ?_); intro _ _)
    | (go_at_K; go_step)
    | (simp only [Exit.then, Exit.inBlock, ↓reduceIte, Nat.reduceEqDiff]))
      ((try simp only [Exit.inBlock, Exit.then]); refine Sy.st_ret2 T F rfl (by repeat (first | exact Sy.ResV.nil | apply Sy.ResV.tmp rfl | apply Sy.ResV.row rfl rfl rfl (by repeat (first | exact Sy.Take.here | apply Sy.Take.there)) (by rfl) | apply Sy.ResV.one rfl rfl rfl (by repeat (first | exact Sy.Take.here | apply Sy.Take.there)) (by rfl))) ?_)
      exact F.retM ⟨zeroConfA, by rw [stepS_full hm hg hne hf]; rfl, by rw [stepS_full hm hg hne hf]; exact zeroConf_at _⟩
    · have v8 : decide ((c.c : Int) ≥ 9223372036854775808) = false := decide_eq_false (by omega)
      have e8 : (c.c + 1) % 18446744073709551616 = c.c + 1 := Nat.mod_eq_of_lt (by omega)
      rw [e8] at wC
      refine Sy.enter Tryd.func19 rfl Tryd.ntmps19 rfl ?_; intro ac T; simp only [Sy.enum, Nat.zero_add, Nat.reduceAdd] at T
      repeat (first
    | (((with_reducible refine Sy.is_guard ?_); (first | refine Sy.st_guard T (h := ?_) | (refine Sy.st_unguard T (h := ?_); clear T; intro ac T))))
    | (((with_reducible refine Sy.is_load ?_); (first | refine Sy.st_loadOne T F (h := ?_) | refine Sy.st_oldOne T F (h := ?_) | refine Sy.st_loadAll T F (h := ?_) | (refine Sy.st_loadCut T F (h := ?_); conv => whnf) | refine Sy.st_oldAgg T F (h := ?_) | (refine Sy.st_oldCut T F (h := ?_); conv => whnf)); clear T; intro ac T))
    | (((with_reducible refine Sy.is_store ?_); (first | refine Sy.st_storeAll T F (h := ?_) | (refine Sy.st_storeOne T F (h := ?_); conv => whnf) | (refine Sy.st_storeAgg T F (h := ?_); conv => whnf)); clear T F; intro ac w T F))
    | (((with_reducible refine Sy.is_box ?_); (first | refine Sy.st_boxAgg T F (h := ?_) | refine Sy.st_boxOne T F (h := ?_)); clear T F; intro ac g w T F))
    | (((with_reducible refine Sy.is_alloc ?_); refine Sy.st_alloc T F (h := ?_); clear T F; intro ac g w T F))
    | (((with_reducible refine Sy.is_build ?_); refine Sy.st_build T (h := ?_); (conv => whnf); (repeat (refine ⟨by first | exact rfl | exact ⟨rfl, rfl⟩, ?_⟩; (conv => whnf))); clear T; intro ac T))
    | (((with_reducible refine Sy.is_buildSlice ?_); refine Sy.st_buildSlice T F (h := ?_); (conv => whnf); (repeat (refine ⟨by first | exact rfl | exact ⟨rfl, rfl⟩, ?_⟩; (conv => whnf))); clear T F; intro ac g w T F))
    | (((with_reducible refine Sy.is_op ?_); refine Sy.st_pure T (h := ?_); clear T; intro ac T))
    | ((with_reducible refine Sy.atK (hK _ _ ?_)))
    | ((with_reducible refine Sy.is_cond ?_); (first | refine Sy.st_true T (h := ?_) | refine Sy.st_false T (h := ?_)))
    | (with_reducible refine wpList_nil ?_)
    | (with_reducible refine wp_region_lit ?_)
    | (with_reducible refine wp_block ?_)
    | (with_reducible refine wp_skip ?_)
    | (with_reducible refine wp_exit ?_)
    | (with_reducible refine wp_ret ?_)
    | ((with_reducible refine wp_seq_k ?_); intro _ _)
    | (go_at_K; go_step)
    | (simp only [Exit.then, Exit.inBlock, ↓reduceIte, Nat.reduceEqDiff]))
      refine Sy.st_callV0 T F (hc := G1 _ F.sub) (h := ?_); (clear T F; intro ac w T F)
      repeat (first
    | (((with_reducible refine Sy.is_guard ?_); (first | refine Sy.st_guard T (h := ?_) | (refine Sy.st_unguard T (h := ?_); clear T; intro ac T))))
    | (((with_reducible refine Sy.is_load ?_); (first | refine Sy.st_loadOne T F (h := ?_) | refine Sy.st_oldOne T F (h := ?_) | refine Sy.st_loadAll T F (h := ?_) | (refine Sy.st_loadCut T F (h := ?_); conv => whnf) | refine Sy.st_oldAgg T F (h := ?_) | (refine Sy.st_oldCut T F (h := ?_); conv => whnf)); clear T; intro ac T))
    | (((with_reducible refine Sy.is_store ?_); (first | refine Sy.st_storeAll T F (h := ?_) | (refine Sy.st_storeOne T F (h := ?_); conv => whnf) | (refine Sy.st_storeAgg T F (h := ?_); conv => whnf)); clear T F; intro ac w T F))
    | (((with_reducible refine Sy.is_box ?_); (first | refine Sy.st_boxAgg T F (h := ?_) | refine Sy.st_boxOne T F (h := ?_)); clear T F; intro ac g w T F))
    | (((with_reducible refine Sy.is_alloc ?_); refine Sy.st_alloc T F (h := ?_); clear T F; intro ac g w T F))
    | (((with_reducible refine Sy.is_build ?_); refine Sy.st_build T (h := ?_); (conv => whnf); (repeat (refine ⟨by first | exact rfl | exact ⟨rfl, rfl⟩, ?_⟩; (conv => whnf))); clear T; intro ac T))
    | (((with_reducible refine Sy.is_buildSlice ?_); refine Sy.st_buildSlice T F (h := ?_); (conv => whnf); (repeat (refine ⟨by first | exact rfl | exact ⟨rfl, rfl⟩, ?_⟩; (conv => whnf))); clear T F; intro ac g w T F))
    | (((with_reducible refine Sy.is_op ?_); refine Sy.st_pure T (h := ?_); clear T; intro ac T))
    | ((with_reducible refine Sy.atK (hK _ _ ?_)))
    | ((with_reducible refine Sy.is_cond ?_); (first | refine Sy.st_true T (h := ?_) | refine Sy.st_false T (h := ?_)))
    | (with_reducible refine wpList_nil ?_)
    | (with_reducible refine wp_region_lit ?_)
    | (with_reducible refine wp_block ?_)
    | (with_reducible refine wp_skip ?_)
    | (with_reducible refine wp_exit ?_)
    | (with_reducible refine wp_ret ?_)
    | ((with_reducible refine wp_seq_k ?_); intro _ _)
    | (go_at_K; go_step)
    | (simp only [Exit.then, Exit.inBlock, ↓reduceIte, Nat.reduceEqDiff]))
      ((try simp only [Exit.inBlock, Exit.then]); refine Sy.st_ret2 T F rfl (by repeat (first | exact Sy.ResV.nil | apply Sy.ResV.tmp rfl | apply Sy.ResV.row rfl rfl rfl (by repeat (first | exact Sy.Take.here | apply Sy.Take.there)) (by rfl) | apply Sy.ResV.one rfl rfl rfl (by repeat (first | exact Sy.Take.here | apply Sy.Take.there)) (by rfl))) ?_)
      have hok := stepS_ok hm hg hne hf
      rw [if_pos hb, hnew] at hok
      exact F.retM ⟨⟨none, 0, na, nc⟩, by rw [hok]; rfl, by rw [hok]; exact ⟨by show c.c + 1 < 18446744073709551616; omega, Rows.nil _ _ _ _, h.new⟩⟩
  have v1 := eqT (a := ((c.c % 2 : Nat) : Int)) (b := 0) (by omega)
  have v2 := eqF (a := ((c.c % 2 : Nat) : Int)) (b := 1) (by omega)
  by_cases hn : 64 ≤ node
  · have v3 : decide ((node : Int) > 63) = true := decide_eq_true (by omega)
    refine Sy.enter Tryd.func19 rfl Tryd.ntmps19 rfl ?_; intro ac T; simp only [Sy.enum, Nat.zero_add, Nat.reduceAdd] at T
    repeat (first
    | (((with_reducible refine Sy.is_guard ?_); (first | refine Sy.st_guard T (h := ?_) | (refine Sy.st_unguard T (h := ?_); clear T; intro ac T))))
    | (((with_reducible refine Sy.is_load ?_); (first | refine Sy.st_loadOne T F (h := ?_) | refine Sy.st_oldOne T F (h := ?_) | refine Sy.st_loadAll T F (h := ?_) | (refine Sy.st_loadCut T F (h := ?_); conv => whnf) | refine Sy.st_oldAgg T F (h := ?_) | (refine Sy.st_oldCut T F (h := ?_); conv => whnf)); clear T; intro ac T))
    | (((with_reducible refine Sy.is_store ?_); (first | refine Sy.st_storeAll T F (h := ?_) | (refine Sy.st_storeOne T F (h := ?_); conv => whnf) | (refine Sy.st_storeAgg T F (h := ?_); conv => whnf)); clear T F; intro ac w T F))
    | (((with_reducible refine Sy.is_box ?_); (first | refine Sy.st_boxAgg T F (h := ?_) | refine Sy.st_boxOne T F (h := ?_)); clear T F; intro ac g w T F))
    | (((with_reducible refine Sy.is_alloc ?_); refine Sy.st_alloc T F (h := ?_); clear T F; intro ac g w T F))
    | (((with_reducible refine Sy.is_build ?_); refine Sy.st_build T (h := ?_); (conv => whnf); (repeat (refine ⟨by first | exact rfl | exact ⟨rfl, rfl⟩, ?_⟩; (conv => whnf))); clear T; intro ac T))
    | (((with_reducible refine Sy.is_buildSlice ?_); refine Sy.st_buildSlice T F (h := ?_); (conv => whnf); (repeat (refine ⟨by first | exact rfl | exact ⟨rfl, rfl⟩, ?_⟩; (conv => whnf))); clear T F; intro ac g w T F))
    | (((with_reducible refine Sy.is_op ?_); refine Sy.st_pure T (h := ?_); clear T; intro ac T))
    | ((with_reducible refine Sy.atK (hK _ _ ?_)))
    | ((with_reducible refine Sy.is_cond ?_); (first | refine Sy.st_true T (h := ?_) | refine Sy.st_false T (h := ?_)))
    | (with_reducible refine wpList_nil ?_)
    | (with_reducible refine wp_region_lit ?_)
    | (with_reducible refine wp_block ?_)
    | (with_reducible refine wp_skip ?_)
    | (with_reducible refine wp_exit ?_)
    | (with_reducible refine wp_ret ?_)
    | ((with_reducible refine wp_seq_k ?_); intro _ _)
    | (go_at_K; go_step)
    | (simp only [Exit.then, Exit.inBlock, ↓reduceIte, Nat.reduceEqDiff]))
    refine Sy.st_callV0 T F (hc := G1 _ F.sub) (h := ?_); (clear T F; intro ac w T F)
    repeat (first
    | (((with_reducible refine Sy.is_guard ?_); (first | refine Sy.st_guard T (h := ?_) | (refine Sy.st_unguard T (h := ?_); clear T; intro ac T))))
    | (((with_reducible refine Sy.is_load ?_); (first | refine Sy.st_loadOne T F (h := ?_) | refine Sy.st_oldOne T F (h := ?_) | refine Sy.st_loadAll T F (h := ?_) | (refine Sy.st_loadCut T F (h := ?_); conv => whnf) | refine Sy.st_oldAgg T F (h := ?_) | (refine Sy.st_oldCut T F (h := ?_); conv => whnf)); clear T; intro ac T))
    | (((with_reducible refine Sy.is_store ?_); (first | refine Sy.st_storeAll T F (h := ?_) | (refine Sy.st_storeOne T F (h := ?_); conv => whnf) | (refine Sy.st_storeAgg T F (h := ?_); conv => whnf)); clear T F; intro ac w T F))
    | (((with_reducible refine Sy.is_box ?_); (first | refine Sy.st_boxAgg T F (h := ?_) | refine Sy.st_boxOne T F (h := ?_)); clear T F; intro ac g w T F))
    | (((with_reducible refine Sy.is_alloc ?_); refine Sy.st_alloc T F (h := ?_); clear T F; intro ac g w T F))
    | (((with_reducible refine Sy.is_build ?_); refine Sy.st_build T (h := ?_); (conv => whnf); (repeat (refine ⟨by first | exact rfl | exact ⟨rfl, rfl⟩, ?_⟩; (conv => whnf))); clear T; intro ac T))
    | (((with_reducible refine Sy.is_buildSlice ?_); refine Sy.st_buildSlice T F (h := ?_); (conv => whnf); (repeat (refine ⟨by first | exact rfl | exact ⟨rfl, rfl⟩, ?_⟩; (conv => whnf))); clear T F; intro ac g w T F))
    | (((with_reducible refine Sy.is_op ?_); refine Sy.st_pure T (h := ?_); clear T; intro ac T))
    | ((with_reducible refine Sy.atK (hK _ _ ?_)))
    | ((with_reducible refine Sy.is_cond ?_); (first | refine Sy.st_true T (h := ?_) | refine Sy.st_false T (h := ?_)))
    | (with_reducible refine wpList_nil ?_)
    | (with_reducible refine wp_region_lit ?_)
    | (with_reducible refine wp_block ?_)
    | (with_reducible refine wp_skip ?_)
    | (with_reducible refine wp_exit ?_)
    | (with_reducible refine wp_ret ?_)
    | ((with_reducible refine wp_seq_k ?_); intro _ _)
    | (go_at_K; go_step)
    | (simp only [Exit.then, Exit.inBlock, ↓reduceIte, Nat.reduceEqDiff]))
    ((try simp only [Exit.inBlock, Exit.then]); refine Sy.st_ret2 T F rfl (by repeat (first | exact Sy.ResV.nil | apply Sy.ResV.tmp rfl | apply Sy.ResV.row rfl rfl rfl (by repeat (first | exact Sy.Take.here | apply Sy.Take.there)) (by rfl) | apply Sy.ResV.one rfl rfl rfl (by repeat (first | exact Sy.Take.here | apply Sy.Take.there)) (by rfl))) ?_)
    have hbad : mayC c = false ∨ (c.c % 2 = 0 ∧ 64 ≤ node) := .inr ⟨by omega, hn⟩
    exact F.retM ⟨zeroConfA, by rw [stepS_bad hbad]; rfl, by rw [stepS_bad hbad]; exact zeroConf_at _⟩
  have v3 : decide ((node : Int) > 63) = false := decide_eq_false (by omega)
  have hg : ¬ (c.c % 2 = 0 ∧ 64 ≤ node) := by omega
  have hnew : newS c node = togL c.new node := by unfold newS; rw [if_neg hb]
  refine Sy.enter Tryd.func19 rfl Tryd.ntmps19 rfl ?_; intro ac T; simp only [Sy.enum, Nat.zero_add, Nat.reduceAdd] at T
  repeat (first
    | (((with_reducible refine Sy.is_guard ?_); (first | refine Sy.st_guard T (h := ?_) | (refine Sy.st_unguard T (h := ?_); clear T; intro ac T))))
    | (((with_reducible refine Sy.is_load ?_); (first | refine Sy.st_loadOne T F (h := ?_) | refine Sy.st_oldOne T F (h := ?_) | refine Sy.st_loadAll T F (h := ?_) | (refine Sy.st_loadCut T F (h := ?_); conv => whnf) | refine Sy.st_oldAgg T F (h := ?_) | (refine Sy.st_oldCut T F (h := ?_); conv => whnf)); clear T; intro ac T))
    | (((with_reducible refine Sy.is_store ?_); (first | refine Sy.st_storeAll T F (h := ?_) | (refine Sy.st_storeOne T F (h := ?_); conv => whnf) | (refine Sy.st_storeAgg T F (h := ?_); conv => whnf)); clear T F; intro ac w T F))
    | (((with_reducible refine Sy.is_box ?_); (first | refine Sy.st_boxAgg T F (h := ?_) | refine Sy.st_boxOne T F (h := ?_)); clear T F; intro ac g w T F))
    | (((with_reducible refine Sy.is_alloc ?_); refine Sy.st_alloc T F (h := ?_); clear T F; intro ac g w T F))
    | (((with_reducible refine Sy.is_build ?_); refine Sy.st_build T (h := ?_); (conv => whnf); (repeat (refine ⟨by first | exact rfl | exact ⟨rfl, rfl⟩, ?_⟩; (conv => whnf))); clear T; intro ac T))
    | (((with_reducible refine Sy.is_buildSlice ?_); refine Sy.st_buildSlice T F (h := ?_); (conv => whnf); (repeat (refine ⟨by first | exact rfl | exact ⟨rfl, rfl⟩, ?_⟩; (conv => whnf))); clear T F; intro ac g w T F))
    | (((with_reducible refine Sy.is_op ?_); refine Sy.st_pure T (h := ?_); clear T; intro ac T))
    | ((with_reducible refine Sy.atK (hK _ _ ?_)))
    | ((with_reducible refine Sy.is_cond ?_); (first | refine Sy.st_true T (h := ?_) | refine Sy.st_false T (h := ?_)))
    | (with_reducible refine wpList_nil ?_)
    | (with_reducible refine wp_region_lit ?_)
    | (with_reducible refine wp_block ?_)
    | (with_reducible refine wp_skip ?_)
    | (with_reducible refine wp_exit ?_)
    | (with_reducible refine wp_ret ?_)
    | ((with_reducible refine wp_seq_k ?_); intro _ _)
    | (go_at_K; go_step)
    | (simp only [Exit.then, Exit.inBlock, ↓reduceIte, Nat.reduceEqDiff]))
  refine Sy.st_callV0 T F (hc := G1 _ F.sub) (h := ?_); (clear T F; intro ac w T F)
  repeat (first
    | (((with_reducible refine Sy.is_guard ?_); (first | refine Sy.st_guard T (h := ?_) | (refine Sy.st_unguard T (h := ?_); clear T; intro ac T))))
    | (((with_reducible refine Sy.is_load ?_); (first | refine Sy.st_loadOne T F (h := ?_) | refine Sy.st_oldOne T F (h := ?_) | refine Sy.st_loadAll T F (h := ?_) | (refine Sy.st_loadCut T F (h := ?_); conv => whnf) | refine Sy.st_oldAgg T F (h := ?_) | (refine Sy.st_oldCut T F (h := ?_); conv => whnf)); clear T; intro ac T))
    | (((with_reducible refine Sy.is_store ?_); (first | refine Sy.st_storeAll T F (h := ?_) | (refine Sy.st_storeOne T F (h := ?_); conv => whnf) | (refine Sy.st_storeAgg T F (h := ?_); conv => whnf)); clear T F; intro ac w T F))
    | (((with_reducible refine Sy.is_box ?_); (first | refine Sy.st_boxAgg T F (h := ?_) | refine Sy.st_boxOne T F (h := ?_)); clear T F; intro ac g w T F))
    | (((with_reducible refine Sy.is_alloc ?_); refine Sy.st_alloc T F (h := ?_); clear T F; intro ac g w T F))
    | (((with_reducible refine Sy.is_build ?_); refine Sy.st_build T (h := ?_); (conv => whnf); (repeat (refine ⟨by first | exact rfl | exact ⟨rfl, rfl⟩, ?_⟩; (conv => whnf))); clear T; intro ac T))
    | (((with_reducible refine Sy.is_buildSlice ?_); refine Sy.st_buildSlice T F (h := ?_); (conv => whnf); (repeat (refine ⟨by first | exact rfl | exact ⟨rfl, rfl⟩, ?_⟩; (conv => whnf))); clear T F; intro ac g w T F))
    | (((with_reducible refine Sy.is_op ?_); refine Sy.st_pure T (h := ?_); clear T; intro ac T))
    | ((with_reducible refine Sy.atK (hK _ _ ?_)))
    | ((with_reducible refine Sy.is_cond ?_); (first | refine Sy.st_true T (h := ?_) | refine Sy.st_false T (h := ?_)))
    | (with_reducible refine wpList_nil ?_)
    | (with_reducible refine wp_region_lit ?_)
    | (with_reducible refine wp_block ?_)
    | (with_reducible refine wp_skip ?_)
    | (with_reducible refine wp_exit ?_)
    | (with_reducible refine wp_ret ?_)
    | ((with_reducible refine wp_seq_k ?_); intro _ _)
    | (go_at_K; go_step)
    | (simp only [Exit.then, Exit.inBlock, ↓reduceIte, Nat.reduceEqDiff]))
  replace F := F.drop.slA0 5 1 (some ⟨g, 0, none⟩)
  refine Sy.loop3 (fun g2 g4 g6 i ac w' => ∃ (k : Nat) (ad : Option Addr) (cap : Nat), i = 64 - k ∧ k ≤ 64 ∧
    Sy.Tm ac 70 [(1, .int .u8 (node : Int)), (2, .pointer (some ⟨g2, 0, none⟩)), (4, .pointer (some ⟨g4, 0, none⟩)), (5, .int .i64 0), (6, .pointer (some ⟨g6, 0, none⟩)), (7, .slice ad (togK c.new node k).length cap), (8, .int .u8 (k : Int))] ∧
    Sy.MemE (Sy.SlA Sy.E0 5 1 (.slice ad (togK c.new node k).length cap) (togK c.new node k).length ((togK c.new node k).map nodv)) ⟨w0, [], m⟩ m [⟨g6, confCs zeroConf zeroConfA, 25⟩, ⟨g4, confCs zeroConf zeroConfA, 25⟩, ⟨g2, confCs c ⟨oa, oc, na, nc⟩, 25⟩] w') 64 (by exact ⟨0, _, _, rfl, Nat.zero_le _, (T.part (by repeat (first | exact Sy.Part.nil | apply Sy.Part.cons rfl))), (F.sel (by repeat (first | exact Sy.Sel.nil | apply Sy.Sel.cons (by repeat (first | exact Sy.Take.here | apply Sy.Take.there)))))⟩) ?_
  clear T F
  intro i ac w hI J K hJ hK
  obtain ⟨k, ad, cap, rfl, hk, T, F⟩ := hI
  by_cases hlt2 : k < 64
  · have u1 : decide ((k : Int) < 64) = true := decide_eq_true (by omega)
    have u2 := u8_up (k := k) (by omega)
    have u3 := eqN k node
    have hup := togK_up c.new node k
    have hlen := togK_len c.new node k
    have G4 := fun w' (hs : Sub m w') => has_any w' (cap := nc) (h.new.sub hs) k
    cases hkp : keepB c.new node k
    · have u4 : (decide (k ∈ c.new) == decide (k = node)) = true := by unfold keepB at hkp; simpa [bne] using hkp
      rw [hkp] at hup
      simp at hup
      repeat (first
    | (((with_reducible refine Sy.is_guard ?_); (first | refine Sy.st_guard T (h := ?_) | (refine Sy.st_unguard T (h := ?_); clear T; intro ac T))))
    | (((with_reducible refine Sy.is_load ?_); (first | refine Sy.st_loadOne T F (h := ?_) | refine Sy.st_oldOne T F (h := ?_) | refine Sy.st_loadAll T F (h := ?_) | (refine Sy.st_loadCut T F (h := ?_); conv => whnf) | refine Sy.st_oldAgg T F (h := ?_) | (refine Sy.st_oldCut T F (h := ?_); conv => whnf)); clear T; intro ac T))
    | (((with_reducible refine Sy.is_store ?_); (first | refine Sy.st_storeAll T F (h := ?_) | (refine Sy.st_storeOne T F (h := ?_); conv => whnf) | (refine Sy.st_storeAgg T F (h := ?_); conv => whnf)); clear T F; intro ac w T F))
    | (((with_reducible refine Sy.is_box ?_); (first | refine Sy.st_boxAgg T F (h := ?_) | refine Sy.st_boxOne T F (h := ?_)); clear T F; intro ac g w T F))
    | (((with_reducible refine Sy.is_alloc ?_); refine Sy.st_alloc T F (h := ?_); clear T F; intro ac g w T F))
    | (((with_reducible refine Sy.is_build ?_); refine Sy.st_build T (h := ?_); (conv => whnf); (repeat (refine ⟨by first | exact rfl | exact ⟨rfl, rfl⟩, ?_⟩; (conv => whnf))); clear T; intro ac T))
    | (((with_reducible refine Sy.is_buildSlice ?_); refine Sy.st_buildSlice T F (h := ?_); (conv => whnf); (repeat (refine ⟨by first | exact rfl | exact ⟨rfl, rfl⟩, ?_⟩; (conv => whnf))); clear T F; intro ac g w T F))
    | (((with_reducible refine Sy.is_op ?_); refine Sy.st_pure T (h := ?_); clear T; intro ac T))
    | ((with_reducible refine Sy.atK (hK _ _ ?_)))
    | ((with_reducible refine Sy.is_cond ?_); (first | refine Sy.st_true T (h := ?_) | refine Sy.st_false T (h := ?_)))
    | (with_reducible refine wpList_nil ?_)
    | (with_reducible refine wp_region_lit ?_)
    | (with_reducible refine wp_block ?_)
    | (with_reducible refine wp_skip ?_)
    | (with_reducible refine wp_exit ?_)
    | (with_reducible refine wp_ret ?_)
    | ((with_reducible refine wp_seq_k ?_); intro _ _)
    | (go_at_K; go_step)
    | (simp only [Exit.then, Exit.inBlock, ↓reduceIte, Nat.reduceEqDiff]))
      refine Sy.st_callV0 T F (hc := G4 _ F.sub) (h := ?_); (clear T F; intro ac w T F)
      repeat (first
    | (((with_reducible refine Sy.is_guard ?_); (first | refine Sy.st_guard T (h := ?_) | (refine Sy.st_unguard T (h := ?_); clear T; intro ac T))))
    | (((with_reducible refine Sy.is_load ?_); (first | refine Sy.st_loadOne T F (h := ?_) | refine Sy.st_oldOne T F (h := ?_) | refine Sy.st_loadAll T F (h := ?_) | (refine Sy.st_loadCut T F (h := ?_); conv => whnf) | refine Sy.st_oldAgg T F (h := ?_) | (refine Sy.st_oldCut T F (h := ?_); conv => whnf)); clear T; intro ac T))
    | (((with_reducible refine Sy.is_store ?_); (first | refine Sy.st_storeAll T F (h := ?_) | (refine Sy.st_storeOne T F (h := ?_); conv => whnf) | (refine Sy.st_storeAgg T F (h := ?_); conv => whnf)); clear T F; intro ac w T F))
    | (((with_reducible refine Sy.is_box ?_); (first | refine Sy.st_boxAgg T F (h := ?_) | refine Sy.st_boxOne T F (h := ?_)); clear T F; intro ac g w T F))
    | (((with_reducible refine Sy.is_alloc ?_); refine Sy.st_alloc T F (h := ?_); clear T F; intro ac g w T F))
    | (((with_reducible refine Sy.is_build ?_); refine Sy.st_build T (h := ?_); (conv => whnf); (repeat (refine ⟨by first | exact rfl | exact ⟨rfl, rfl⟩, ?_⟩; (conv => whnf))); clear T; intro ac T))
    | (((with_reducible refine Sy.is_buildSlice ?_); refine Sy.st_buildSlice T F (h := ?_); (conv => whnf); (repeat (refine ⟨by first | exact rfl | exact ⟨rfl, rfl⟩, ?_⟩; (conv => whnf))); clear T F; intro ac g w T F))
    | (((with_reducible refine Sy.is_op ?_); refine Sy.st_pure T (h := ?_); clear T; intro ac T))
    | ((with_reducible refine Sy.atK (hK _ _ ?_)))
    | ((with_reducible refine Sy.is_cond ?_); (first | refine Sy.st_true T (h := ?_) | refine Sy.st_false T (h := ?_)))
    | (with_reducible refine wpList_nil ?_)
    | (with_reducible refine wp_region_lit ?_)
    | (with_reducible refine wp_block ?_)
    | (with_reducible refine wp_skip ?_)
    | (with_reducible refine wp_exit ?_)
    | (with_reducible refine wp_ret ?_)
    | ((with_reducible refine wp_seq_k ?_); intro _ _)
    | (go_at_K; go_step)
    | (simp only [Exit.then, Exit.inBlock, ↓reduceIte, Nat.reduceEqDiff]))
      exact Sy.handed hJ (k := 64 - (k + 1)) (by omega) ⟨k + 1, ad, cap, rfl, by omega, by rw [hup]; exact (T.part (by repeat (first | exact Sy.Part.nil | apply Sy.Part.cons rfl))), by rw [hup]; exact (F.sel (by repeat (first | exact Sy.Sel.nil | apply Sy.Sel.cons (by repeat (first | exact Sy.Take.here | apply Sy.Take.there)))))⟩
    · have u4 : (decide (k ∈ c.new) == decide (k = node)) = false := by unfold keepB at hkp; simpa [bne] using hkp
      rw [hkp] at hup
      simp at hup
      repeat (first
    | (((with_reducible refine Sy.is_guard ?_); (first | refine Sy.st_guard T (h := ?_) | (refine Sy.st_unguard T (h := ?_); clear T; intro ac T))))
    | (((with_reducible refine Sy.is_load ?_); (first | refine Sy.st_loadOne T F (h := ?_) | refine Sy.st_oldOne T F (h := ?_) | refine Sy.st_loadAll T F (h := ?_) | (refine Sy.st_loadCut T F (h := ?_); conv => whnf) | refine Sy.st_oldAgg T F (h := ?_) | (refine Sy.st_oldCut T F (h := ?_); conv => whnf)); clear T; intro ac T))
    | (((with_reducible refine Sy.is_store ?_); (first | refine Sy.st_storeAll T F (h := ?_) | (refine Sy.st_storeOne T F (h := ?_); conv => whnf) | (refine Sy.st_storeAgg T F (h := ?_); conv => whnf)); clear T F; intro ac w T F))
    | (((with_reducible refine Sy.is_box ?_); (first | refine Sy.st_boxAgg T F (h := ?_) | refine Sy.st_boxOne T F (h := ?_)); clear T F; intro ac g w T F))
    | (((with_reducible refine Sy.is_alloc ?_); refine Sy.st_alloc T F (h := ?_); clear T F; intro ac g w T F))
    | (((with_reducible refine Sy.is_build ?_); refine Sy.st_build T (h := ?_); (conv => whnf); (repeat (refine ⟨by first | exact rfl | exact ⟨rfl, rfl⟩, ?_⟩; (conv => whnf))); clear T; intro ac T))
    | (((with_reducible refine Sy.is_buildSlice ?_); refine Sy.st_buildSlice T F (h := ?_); (conv => whnf); (repeat (refine ⟨by first | exact rfl | exact ⟨rfl, rfl⟩, ?_⟩; (conv => whnf))); clear T F; intro ac g w T F))
    | (((with_reducible refine Sy.is_op ?_); refine Sy.st_pure T (h := ?_); clear T; intro ac T))
    | ((with_reducible refine Sy.atK (hK _ _ ?_)))
    | ((with_reducible refine Sy.is_cond ?_); (first | refine Sy.st_true T (h := ?_) | refine Sy.st_false T (h := ?_)))
    | (with_reducible refine wpList_nil ?_)
    | (with_reducible refine wp_region_lit ?_)
    | (with_reducible refine wp_block ?_)
    | (with_reducible refine wp_skip ?_)
    | (with_reducible refine wp_exit ?_)
    | (with_reducible refine wp_ret ?_)
    | ((with_reducible refine wp_seq_k ?_); intro _ _)
    | (go_at_K; go_step)
    | (simp only [Exit.then, Exit.inBlock, ↓reduceIte, Nat.reduceEqDiff]))
      refine Sy.st_callV0 T F (hc := G4 _ F.sub) (h := ?_); (clear T F; intro ac w T F)
      repeat (first
    | (((with_reducible refine Sy.is_guard ?_); (first | refine Sy.st_guard T (h := ?_) | (refine Sy.st_unguard T (h := ?_); clear T; intro ac T))))
    | (((with_reducible refine Sy.is_load ?_); (first | refine Sy.st_loadOne T F (h := ?_) | refine Sy.st_oldOne T F (h := ?_) | refine Sy.st_loadAll T F (h := ?_) | (refine Sy.st_loadCut T F (h := ?_); conv => whnf) | refine Sy.st_oldAgg T F (h := ?_) | (refine Sy.st_oldCut T F (h := ?_); conv => whnf)); clear T; intro ac T))
    | (((with_reducible refine Sy.is_store ?_); (first | refine Sy.st_storeAll T F (h := ?_) | (refine Sy.st_storeOne T F (h := ?_); conv => whnf) | (refine Sy.st_storeAgg T F (h := ?_); conv => whnf)); clear T F; intro ac w T F))
    | (((with_reducible refine Sy.is_box ?_); (first | refine Sy.st_boxAgg T F (h := ?_) | refine Sy.st_boxOne T F (h := ?_)); clear T F; intro ac g w T F))
    | (((with_reducible refine Sy.is_alloc ?_); refine Sy.st_alloc T F (h := ?_); clear T F; intro ac g w T F))
    | (((with_reducible refine Sy.is_build ?_); refine Sy.st_build T (h := ?_); (conv => whnf); (repeat (refine ⟨by first | exact rfl | exact ⟨rfl, rfl⟩, ?_⟩; (conv => whnf))); clear T; intro ac T))
    | (((with_reducible refine Sy.is_buildSlice ?_); refine Sy.st_buildSlice T F (h := ?_); (conv => whnf); (repeat (refine ⟨by first | exact rfl | exact ⟨rfl, rfl⟩, ?_⟩; (conv => whnf))); clear T F; intro ac g w T F))
    | (((with_reducible refine Sy.is_op ?_); refine Sy.st_pure T (h := ?_); clear T; intro ac T))
    | ((with_reducible refine Sy.atK (hK _ _ ?_)))
    | ((with_reducible refine Sy.is_cond ?_); (first | refine Sy.st_true T (h := ?_) | refine Sy.st_false T (h := ?_)))
    | (with_reducible refine wpList_nil ?_)
    | (with_reducible refine wp_region_lit ?_)
    | (with_reducible refine wp_block ?_)
    | (with_reducible refine wp_skip ?_)
    | (with_reducible refine wp_exit ?_)
    | (with_reducible refine wp_ret ?_)
    | ((with_reducible refine wp_seq_k ?_); intro _ _)
    | (go_at_K; go_step)
    | (simp only [Exit.then, Exit.inBlock, ↓reduceIte, Nat.reduceEqDiff]))
      refine Sy.st_appendC T F (k2 := 1) (news := [nodv k]) (cells_ownB (F.get Sy.Take.here)) rfl (by intro u hu; simp at hu; subst hu; rfl) (hbytes := ?_) (h := ?_)
      · show ((togK c.new node k).length + 1) * 1 ≤ 140737488355328; omega
      clear T F; intro ad' cap' ac w T F
      have e1 : (togK c.new node k).map nodv ++ [nodv k] = (togK c.new node (k + 1)).map nodv := by rw [hup]; simp
      have e2 : (togK c.new node k).length + 1 = (togK c.new node (k + 1)).length := by rw [hup]; simp
      rw [e1, e2] at F
      rw [e2] at T
      repeat (first
    | (((with_reducible refine Sy.is_guard ?_); (first | refine Sy.st_guard T (h := ?_) | (refine Sy.st_unguard T (h := ?_); clear T; intro ac T))))
    | (((with_reducible refine Sy.is_load ?_); (first | refine Sy.st_loadOne T F (h := ?_) | refine Sy.st_oldOne T F (h := ?_) | refine Sy.st_loadAll T F (h := ?_) | (refine Sy.st_loadCut T F (h := ?_); conv => whnf) | refine Sy.st_oldAgg T F (h := ?_) | (refine Sy.st_oldCut T F (h := ?_); conv => whnf)); clear T; intro ac T))
    | (((with_reducible refine Sy.is_store ?_); (first | refine Sy.st_storeAll T F (h := ?_) | (refine Sy.st_storeOne T F (h := ?_); conv => whnf) | (refine Sy.st_storeAgg T F (h := ?_); conv => whnf)); clear T F; intro ac w T F))
    | (((with_reducible refine Sy.is_box ?_); (first | refine Sy.st_boxAgg T F (h := ?_) | refine Sy.st_boxOne T F (h := ?_)); clear T F; intro ac g w T F))
    | (((with_reducible refine Sy.is_alloc ?_); refine Sy.st_alloc T F (h := ?_); clear T F; intro ac g w T F))
    | (((with_reducible refine Sy.is_build ?_); refine Sy.st_build T (h := ?_); (conv => whnf); (repeat (refine ⟨by first | exact rfl | exact ⟨rfl, rfl⟩, ?_⟩; (conv => whnf))); clear T; intro ac T))
    | (((with_reducible refine Sy.is_buildSlice ?_); refine Sy.st_buildSlice T F (h := ?_); (conv => whnf); (repeat (refine ⟨by first | exact rfl | exact ⟨rfl, rfl⟩, ?_⟩; (conv => whnf))); clear T F; intro ac g w T F))
    | (((with_reducible refine Sy.is_op ?_); refine Sy.st_pure T (h := ?_); clear T; intro ac T))
    | ((with_reducible refine Sy.atK (hK _ _ ?_)))
    | ((with_reducible refine Sy.is_cond ?_); (first | refine Sy.st_true T (h := ?_) | refine Sy.st_false T (h := ?_)))
    | (with_reducible refine wpList_nil ?_)
    | (with_reducible refine wp_region_lit ?_)
    | (with_reducible refine wp_block ?_)
    | (with_reducible refine wp_skip ?_)
    | (with_reducible refine wp_exit ?_)
    | (with_reducible refine wp_ret ?_)
    | ((with_reducible refine wp_seq_k ?_); intro _ _)
    | (go_at_K; go_step)
    | (simp only [Exit.then, Exit.inBlock, ↓reduceIte, Nat.reduceEqDiff]))
      exact Sy.handed hJ (k := 64 - (k + 1)) (by omega) ⟨k + 1, ad', cap', rfl, by omega, (T.part (by repeat (first | exact Sy.Part.nil | apply Sy.Part.cons rfl))), (F.sel (by repeat (first | exact Sy.Sel.nil | apply Sy.Sel.cons (by repeat (first | exact Sy.Take.here | apply Sy.Take.there)))))⟩
  obtain rfl : k = 64 := by omega
  have u1 : decide (((64 : Nat) : Int) < 64) = false := decide_eq_false (by omega)
  have ht : togK c.new node 64 = togL c.new node := rfl
  rw [ht] at T F
  have hall : rise (togL c.new node) = true := tog_rise _ _
  have htl := rise_len hall
  have htlt := ((rise_iff _).1 hall).1
  obtain ⟨m', hs', F, hc'⟩ := F.freeze
  by_cases hz : (togL c.new node).length = 0
  · have v7 := eqT (a := ((togL c.new node).length : Int)) (b := 0) (by omega)
    have hne : newS c node = [] := by rw [hnew]; exact List.eq_nil_of_length_eq_zero hz
    repeat (first
    | (((with_reducible refine Sy.is_guard ?_); (first | refine Sy.st_guard T (h := ?_) | (refine Sy.st_unguard T (h := ?_); clear T; intro ac T))))
    | (((with_reducible refine Sy.is_load ?_); (first | refine Sy.st_loadOne T F (h := ?_) | refine Sy.st_oldOne T F (h := ?_) | refine Sy.st_loadAll T F (h := ?_) | (refine Sy.st_loadCut T F (h := ?_); conv => whnf) | refine Sy.st_oldAgg T F (h := ?_) | (refine Sy.st_oldCut T F (h := ?_); conv => whnf)); clear T; intro ac T))
    | (((with_reducible refine Sy.is_store ?_); (first | refine Sy.st_storeAll T F (h := ?_) | (refine Sy.st_storeOne T F (h := ?_); conv => whnf) | (refine Sy.st_storeAgg T F (h := ?_); conv => whnf)); clear T F; intro ac w T F))
    | (((with_reducible refine Sy.is_box ?_); (first | refine Sy.st_boxAgg T F (h := ?_) | refine Sy.st_boxOne T F (h := ?_)); clear T F; intro ac g w T F))
    | (((with_reducible refine Sy.is_alloc ?_); refine Sy.st_alloc T F (h := ?_); clear T F; intro ac g w T F))
    | (((with_reducible refine Sy.is_build ?_); refine Sy.st_build T (h := ?_); (conv => whnf); (repeat (refine ⟨by first | exact rfl | exact ⟨rfl, rfl⟩, ?_⟩; (conv => whnf))); clear T; intro ac T))
    | (((with_reducible refine Sy.is_buildSlice ?_); refine Sy.st_buildSlice T F (h := ?_); (conv => whnf); (repeat (refine ⟨by first | exact rfl | exact ⟨rfl, rfl⟩, ?_⟩; (conv => whnf))); clear T F; intro ac g w T F))
    | (((with_reducible refine Sy.is_op ?_); refine Sy.st_pure T (h := ?_); clear T; intro ac T))
    | ((with_reducible refine Sy.atK (hK _ _ ?_)))
    | ((with_reducible refine Sy.is_cond ?_); (first | refine Sy.st_true T (h := ?_) | refine Sy.st_false T (h := ?_)))
    | (with_reducible refine wpList_nil ?_)
    | (with_reducible refine wp_region_lit ?_)
    | (with_reducible refine wp_block ?_)
    | (with_reducible refine wp_skip ?_)
    | (with_reducible refine wp_exit ?_)
    | (with_reducible refine wp_ret ?_)
    | ((with_reducible refine wp_seq_k ?_); intro _ _)
    | (go_at_K; go_step)
    | (simp only [Exit.then, Exit.inBlock, ↓reduceIte, Nat.reduceEqDiff]))
    ((try simp only [Exit.inBlock, Exit.then]); refine Sy.st_ret2 T F rfl (by repeat (first | exact Sy.ResV.nil | apply Sy.ResV.tmp rfl | apply Sy.ResV.row rfl rfl rfl (by repeat (first | exact Sy.Take.here | apply Sy.Take.there)) (by rfl) | apply Sy.ResV.one rfl rfl rfl (by repeat (first | exact Sy.Take.here | apply Sy.Take.there)) (by rfl))) ?_)
    exact F.retM ⟨zeroConfA, by rw [stepS_nil hm hg hne]; rfl, by rw [stepS_nil hm hg hne]; exact zeroConf_at _⟩
  have v7 := eqF (a := ((togL c.new node).length : Int)) (b := 0) (by omega)
  have hne : newS c node ≠ [] := by rw [hnew]; exact fun e => hz (by rw [e]; rfl)
  by_cases hf : 9223372036854775808 ≤ c.c
  · have v8 : decide ((c.c : Int) ≥ 9223372036854775808) = true := decide_eq_true (by omega)
    repeat (first
    | (((with_reducible refine Sy.is_guard ?_); (first | refine Sy.st_guard T (h := ?_) | (refine Sy.st_unguard T (h := ?_); clear T; intro ac T))))
    | (((with_reducible refine Sy.is_load ?_); (first | refine Sy.st_loadOne T F (h := ?_) | refine Sy.st_oldOne T F (h := ?_) | refine Sy.st_loadAll T F (h := ?_) | (refine Sy.st_loadCut T F (h := ?_); conv => whnf) | refine Sy.st_oldAgg T F (h := ?_) | (refine Sy.st_oldCut T F (h := ?_); conv => whnf)); clear T; intro ac T))
    | (((with_reducible refine Sy.is_store ?_); (first | refine Sy.st_storeAll T F (h := ?_) | (refine Sy.st_storeOne T F (h := ?_); conv => whnf) | (refine Sy.st_storeAgg T F (h := ?_); conv => whnf)); clear T F; intro ac w T F))
    | (((with_reducible refine Sy.is_box ?_); (first | refine Sy.st_boxAgg T F (h := ?_) | refine Sy.st_boxOne T F (h := ?_)); clear T F; intro ac g w T F))
    | (((with_reducible refine Sy.is_alloc ?_); refine Sy.st_alloc T F (h := ?_); clear T F; intro ac g w T F))
    | (((with_reducible refine Sy.is_build ?_); refine Sy.st_build T (h := ?_); (conv => whnf); (repeat (refine ⟨by first | exact rfl | exact ⟨rfl, rfl⟩, ?_⟩; (conv => whnf))); clear T; intro ac T))
    | (((with_reducible refine Sy.is_buildSlice ?_); refine Sy.st_buildSlice T F (h := ?_); (conv => whnf); (repeat (refine ⟨by first | exact rfl | exact ⟨rfl, rfl⟩, ?_⟩; (conv => whnf))); clear T F; intro ac g w T F))
    | (((with_reducible refine Sy.is_op ?_); refine Sy.st_pure T (h := ?_); clear T; intro ac T))
    | ((with_reducible refine Sy.atK (hK _ _ ?_)))
    | ((with_reducible refine Sy.is_cond ?_); (first | refine Sy.st_true T (h := ?_) | refine Sy.st_false T (h := ?_)))
    | (with_reducible refine wpList_nil ?_)
    | (with_reducible refine wp_region_lit ?_)
    | (with_reducible refine wp_block ?_)
    | (with_reducible refine wp_skip ?_)
    | (with_reducible refine wp_exit ?_)
    | (with_reducible refine wp_ret ?_)
    | ((with_reducible refine wp_seq_k ?_); intro _ _)
    | (go_at_K; go_step)
    | (simp only [Exit.then, Exit.inBlock, ↓reduceIte, Nat.reduceEqDiff]))
    ((try simp only [Exit.inBlock, Exit.then]); refine Sy.st_ret2 T F rfl (by repeat (first | exact Sy.ResV.nil | apply Sy.ResV.tmp rfl | apply Sy.ResV.row rfl rfl rfl (by repeat (first | exact Sy.Take.here | apply Sy.Take.there)) (by rfl) | apply Sy.ResV.one rfl rfl rfl (by repeat (first | exact Sy.Take.here | apply Sy.Take.there)) (by rfl))) ?_)
    exact F.retM ⟨zeroConfA, by rw [stepS_full hm hg hne hf]; rfl, by rw [stepS_full hm hg hne hf]; exact zeroConf_at _⟩
  have v8 : decide ((c.c : Int) ≥ 9223372036854775808) = false := decide_eq_false (by omega)
  have e8 : (c.c + 1) % 18446744073709551616 = c.c + 1 := Nat.mod_eq_of_lt (by omega)
  rw [e8] at wC
  repeat (first
    | (((with_reducible refine Sy.is_guard ?_); (first | refine Sy.st_guard T (h := ?_) | (refine Sy.st_unguard T (h := ?_); clear T; intro ac T))))
    | (((with_reducible refine Sy.is_load ?_); (first | refine Sy.st_loadOne T F (h := ?_) | refine Sy.st_oldOne T F (h := ?_) | refine Sy.st_loadAll T F (h := ?_) | (refine Sy.st_loadCut T F (h := ?_); conv => whnf) | refine Sy.st_oldAgg T F (h := ?_) | (refine Sy.st_oldCut T F (h := ?_); conv => whnf)); clear T; intro ac T))
    | (((with_reducible refine Sy.is_store ?_); (first | refine Sy.st_storeAll T F (h := ?_) | (refine Sy.st_storeOne T F (h := ?_); conv => whnf) | (refine Sy.st_storeAgg T F (h := ?_); conv => whnf)); clear T F; intro ac w T F))
    | (((with_reducible refine Sy.is_box ?_); (first | refine Sy.st_boxAgg T F (h := ?_) | refine Sy.st_boxOne T F (h := ?_)); clear T F; intro ac g w T F))
    | (((with_reducible refine Sy.is_alloc ?_); refine Sy.st_alloc T F (h := ?_); clear T F; intro ac g w T F))
    | (((with_reducible refine Sy.is_build ?_); refine Sy.st_build T (h := ?_); (conv => whnf); (repeat (refine ⟨by first | exact rfl | exact ⟨rfl, rfl⟩, ?_⟩; (conv => whnf))); clear T; intro ac T))
    | (((with_reducible refine Sy.is_buildSlice ?_); refine Sy.st_buildSlice T F (h := ?_); (conv => whnf); (repeat (refine ⟨by first | exact rfl | exact ⟨rfl, rfl⟩, ?_⟩; (conv => whnf))); clear T F; intro ac g w T F))
    | (((with_reducible refine Sy.is_op ?_); refine Sy.st_pure T (h := ?_); clear T; intro ac T))
    | ((with_reducible refine Sy.atK (hK _ _ ?_)))
    | ((with_reducible refine Sy.is_cond ?_); (first | refine Sy.st_true T (h := ?_) | refine Sy.st_false T (h := ?_)))
    | (with_reducible refine wpList_nil ?_)
    | (with_reducible refine wp_region_lit ?_)
    | (with_reducible refine wp_block ?_)
    | (with_reducible refine wp_skip ?_)
    | (with_reducible refine wp_exit ?_)
    | (with_reducible refine wp_ret ?_)
    | ((with_reducible refine wp_seq_k ?_); intro _ _)
    | (go_at_K; go_step)
    | (simp only [Exit.then, Exit.inBlock, ↓reduceIte, Nat.reduceEqDiff]))
  ((try simp only [Exit.inBlock, Exit.then]); refine Sy.st_ret2 T F rfl (by repeat (first | exact Sy.ResV.nil | apply Sy.ResV.tmp rfl | apply Sy.ResV.row rfl rfl rfl (by repeat (first | exact Sy.Take.here | apply Sy.Take.there)) (by rfl) | apply Sy.ResV.one rfl rfl rfl (by repeat (first | exact Sy.Take.here | apply Sy.Take.there)) (by rfl))) ?_)
  have hok := stepS_ok hm hg hne hf
  rw [if_neg hb, hnew] at hok
  exact F.retM ⟨⟨na, nc, ad, cap⟩, by rw [hok]; rfl, by rw [hok]; exact ⟨by show c.c + 1 < 18446744073709551616; omega, h.new.sub hs', nod_of (hc' _ _ rfl) (show (togL c.new node).length ≤ maxLen by unfold maxLen; omega) (fun x hx => Nat.lt_trans (htlt x hx) (by decide))⟩⟩
end Rc
end Go.Proofs.YtohhjbfkgokopaaDoor
