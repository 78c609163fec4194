/- The walk of the law MsgSpoilt. Conditions: what is handed in can be read. -/
import Derived.Test.YtniopkoaplkpkaaMsQ
import Derived.Test.YtniopkoaplkpkaaSumB
namespace Go.Proofs.Ytniopkoaplkpkaa
open Go.RowKit
set_option linter.unusedVariables false
set_option linter.unusedSimpArgs false
namespace Ms
open Sy (RetV RetM Sub)
open Rg (eqT eqF retBb RegD RegA RegAt regCs BytP zeroReg zeroRegA regB mayS Short U8 U64)
open Pk (numB numB_len numB_pos)
open Sm (sp sp_len sp_step sp_get sp_four sp_zero markS mark_len spoil_fits)
theorem xorU (x y : UInt8) : IntKind.u8.wrap ((BitVec.ofInt IntKind.u8.bits (x.toNat : Int) ^^^ BitVec.ofInt IntKind.u8.bits (y.toNat : Int)).toNat : Int) = ((x ^^^ y).toNat : Int) := by
  have h : bits .xor .u8 (x.toNat : Int) (y.toNat : Int) = ((x ^^^ y).toNat : Int) := by rw [u8_xor_nat _ _ x.toNat_lt y.toNat_lt, UInt8.toNat_xor]
  exact h
theorem msgB_len {w : World} {m : MsgD} {p : RegA} (h : MsgAt w m p) (hs : Short m.reg) (hm : mayS m.reg = true) : (msgB m (regB m.reg)).length ≤ 21000 := by
  have a1 := preM_len h 5
  have a2 := balB_len h.b
  have a3 := balB_len h.acc
  have a4 := balB_len h.next
  have a5 := regB_len h.reg hs hm
  have a6 := numB_len (n := okN m) (by unfold okN; split <;> omega)
  have a7 := numB_len (n := m.max) h.max
  unfold msgB
  simp only [List.length_append]
  omega
set_option maxRecDepth 20000 in
set_option maxHeartbeats 4000000 in
theorem spoilt_any (w0 : World) (m : MsgD) (p : RegA) (h : MsgAt w0 m p) (i : Int) (hi : -9223372036854775808 ≤ i ∧ i ≤ 9223372036854775807) (v : Nat) (hv : v < 4294967296) :
    Calls Try.prog 6 #[.agg (msgCs m p).toArray, .int .i64 i, .int .u32 (v : Int)] w0 (RetV w0 (.bool true)) := by
  have F := Sy.Mem.start (Sub.refl w0)
  have e00 : ((0 : Int) == 0) = true := rfl
  have e55 : ((5 : Int) == 5) = true := rfl
  have e30 : ((3 : Int) == 0) = false := rfl
  have e0n : (((0 : Nat) : Int) == 0) = true := rfl
  have hreg := h.reg
  refine Sy.enter Try.func6 rfl Try.ntmps6 rfl ?_; intro ac T; simp only [Sy.enum, Nat.zero_add, Nat.reduceAdd] at T
  repeat (first
    | (((with_reducible refine Sy.is_guard ?_); (first | refine Sy.st_guard T (h := ?_) | (refine Sy.st_unguard T (h := ?_); clear T; intro ac T))))
    | (((with_reducible refine Sy.is_load ?_); (first | refine Sy.st_loadOne T F (h := ?_) | refine Sy.st_oldOne T F (h := ?_) | refine Sy.st_loadAll T F (h := ?_) | (refine Sy.st_loadCut T F (h := ?_); conv => whnf) | refine Sy.st_oldAgg T F (h := ?_) | (refine Sy.st_oldCut T F (h := ?_); conv => whnf)); clear T; intro ac T))
    | (((with_reducible refine Sy.is_store ?_); (first | refine Sy.st_storeAll T F (h := ?_) | (refine Sy.st_storeOne T F (h := ?_); conv => whnf) | (refine Sy.st_storeAgg T F (h := ?_); conv => whnf)); clear T F; intro ac w T F))
    | (((with_reducible refine Sy.is_box ?_); (first | refine Sy.st_boxAgg T F (h := ?_) | refine Sy.st_boxOne T F (h := ?_)); clear T F; intro ac g w T F))
    | (((with_reducible refine Sy.is_alloc ?_); refine Sy.st_alloc T F (h := ?_); clear T F; intro ac g w T F))
    | (((with_reducible refine Sy.is_build ?_); refine Sy.st_build T (h := ?_); (conv => whnf); (repeat (refine ⟨by first | exact rfl | exact ⟨rfl, rfl⟩, ?_⟩; (conv => whnf))); clear T; intro ac T))
    | (((with_reducible refine Sy.is_op ?_); refine Sy.st_pure T (h := ?_); clear T; intro ac T))
    | ((with_reducible refine Sy.atK (hK _ _ ?_)))
    | ((with_reducible refine Sy.is_cond ?_); (first | refine Sy.st_true T (h := ?_) | refine Sy.st_false T (h := ?_)))
    | (with_reducible refine wpList_nil ?_)
    | (with_reducible refine wp_region_lit ?_)
    | (with_reducible refine wp_block ?_)
    | (with_reducible refine wp_skip ?_)
    | (with_reducible refine wp_exit ?_)
    | (with_reducible refine wp_ret ?_)
    | ((with_reducible refine wp_seq_k ?_); intro _ _)
    | (go_at_K; go_step)
    | (simp only [Exit.then, Exit.inBlock, ↓reduceIte, Nat.reduceEqDiff])
    | ((with_reducible refine Sy.is_drawn (id := 13) ?_); refine Sy.sx_region F [] (.t 0 (.t 1 (.t 2 (.t 3 (.t 4 (.t 5 (.t 6 (.t 7 (.t 8 (.t 9 (.t 10 (.t 11 (.t 12 (.t 13 (.t 14 (.t 15 .e)))))))))))))))) [16, 17] (by kernel_rfl) ?_; (clear F; intro w F))
    | ((first | refine Sy.sx_plain (h := ?_) | refine Sy.sx_guard (T := T) (h := ?_)); (first | ((with_reducible refine Sy.ux_load ?_); (first | refine Sy.sx_val (Sy.rx_loadOne T F) T rfl ?_ | refine Sy.sx_val (Sy.rx_oldOne T F) T rfl ?_ | refine Sy.sx_val (Sy.rx_loadAll T F) T rfl ?_ | (refine Sy.sx_loadCut T F (h := ?_); conv => whnf) | refine Sy.sx_val (Sy.rx_oldAgg T F) T rfl ?_ | (refine Sy.sx_oldCut T F (h := ?_); conv => whnf)); clear T; intro ac T) | ((with_reducible refine Sy.ux_build ?_); refine Sy.sx_build T (h := ?_); (conv => whnf); (repeat (refine ⟨by first | exact rfl | exact ⟨rfl, rfl⟩, ?_⟩; (conv => whnf))); clear T; intro ac T) | (refine Sy.sx_pure T (h := ?_); clear T; intro ac T)); show Sy.wpUx _ _ _ _ _ _ _ _ _)
    | ((first | refine Sy.sx_unguard (T := T) (h := ?_) | refine Sy.sx_unguardH (T := T) (h := ?_)); clear T; intro ac T)
    | (with_reducible refine Sy.sx_fork ?_ ?_)
    | (with_reducible refine Sy.sx_nil ?_)
    | (with_reducible refine Sy.sx_end ?_)
    | (with_reducible refine Sy.sx_tail rfl rfl (fun K hK => ?_))
    | ((first | refine Sy.sx_new (T := T) (F := F) (hr := Sy.new_boxAgg T rfl) (h := ?_) | refine Sy.sx_new (T := T) (F := F) (hr := Sy.new_boxOne T rfl rfl) (h := ?_) | refine Sy.sx_new (T := T) (F := F) (hr := Sy.new_alloc rfl) (h := ?_)); clear T F; intro ac g w T F)
    | ((first | refine Sy.sx_storeAll (T := T) (F := F) (h := ?_) | (refine Sy.sx_storeOne (T := T) (F := F) (h := ?_); conv => whnf) | (refine Sy.sx_storeAgg (T := T) (F := F) (h := ?_); conv => whnf)); clear T F; intro ac w T F))
  have G : Calls Try.prog 16 #[.agg (regCs m.reg p).toArray] w (RetV w (.bool (Rg.greatS m.reg))) := Rg.great_any w m.reg p (hreg.sub F.sub)
  cases hg : Rg.greatS m.reg with
  | true =>
    rw [hg] at G
    refine Sy.st_callV0 T F (hc := G) (h := ?_); (clear T F; intro ac w T F)
    clear G
    repeat (first
    | (((with_reducible refine Sy.is_guard ?_); (first | refine Sy.st_guard T (h := ?_) | (refine Sy.st_unguard T (h := ?_); clear T; intro ac T))))
    | (((with_reducible refine Sy.is_load ?_); (first | refine Sy.st_loadOne T F (h := ?_) | refine Sy.st_oldOne T F (h := ?_) | refine Sy.st_loadAll T F (h := ?_) | (refine Sy.st_loadCut T F (h := ?_); conv => whnf) | refine Sy.st_oldAgg T F (h := ?_) | (refine Sy.st_oldCut T F (h := ?_); conv => whnf)); clear T; intro ac T))
    | (((with_reducible refine Sy.is_store ?_); (first | refine Sy.st_storeAll T F (h := ?_) | (refine Sy.st_storeOne T F (h := ?_); conv => whnf) | (refine Sy.st_storeAgg T F (h := ?_); conv => whnf)); clear T F; intro ac w T F))
    | (((with_reducible refine Sy.is_box ?_); (first | refine Sy.st_boxAgg T F (h := ?_) | refine Sy.st_boxOne T F (h := ?_)); clear T F; intro ac g w T F))
    | (((with_reducible refine Sy.is_alloc ?_); refine Sy.st_alloc T F (h := ?_); clear T F; intro ac g w T F))
    | (((with_reducible refine Sy.is_build ?_); refine Sy.st_build T (h := ?_); (conv => whnf); (repeat (refine ⟨by first | exact rfl | exact ⟨rfl, rfl⟩, ?_⟩; (conv => whnf))); clear T; intro ac T))
    | (((with_reducible refine Sy.is_op ?_); refine Sy.st_pure T (h := ?_); clear T; intro ac T))
    | ((with_reducible refine Sy.atK (hK _ _ ?_)))
    | ((with_reducible refine Sy.is_cond ?_); (first | refine Sy.st_true T (h := ?_) | refine Sy.st_false T (h := ?_)))
    | (with_reducible refine wpList_nil ?_)
    | (with_reducible refine wp_region_lit ?_)
    | (with_reducible refine wp_block ?_)
    | (with_reducible refine wp_skip ?_)
    | (with_reducible refine wp_exit ?_)
    | (with_reducible refine wp_ret ?_)
    | ((with_reducible refine wp_seq_k ?_); intro _ _)
    | (go_at_K; go_step)
    | (simp only [Exit.then, Exit.inBlock, ↓reduceIte, Nat.reduceEqDiff])
    | ((with_reducible refine Sy.is_drawn (id := 13) ?_); refine Sy.sx_region F [] (.t 0 (.t 1 (.t 2 (.t 3 (.t 4 (.t 5 (.t 6 (.t 7 (.t 8 (.t 9 (.t 10 (.t 11 (.t 12 (.t 13 (.t 14 (.t 15 .e)))))))))))))))) [16, 17] (by kernel_rfl) ?_; (clear F; intro w F))
    | ((first | refine Sy.sx_plain (h := ?_) | refine Sy.sx_guard (T := T) (h := ?_)); (first | ((with_reducible refine Sy.ux_load ?_); (first | refine Sy.sx_val (Sy.rx_loadOne T F) T rfl ?_ | refine Sy.sx_val (Sy.rx_oldOne T F) T rfl ?_ | refine Sy.sx_val (Sy.rx_loadAll T F) T rfl ?_ | (refine Sy.sx_loadCut T F (h := ?_); conv => whnf) | refine Sy.sx_val (Sy.rx_oldAgg T F) T rfl ?_ | (refine Sy.sx_oldCut T F (h := ?_); conv => whnf)); clear T; intro ac T) | ((with_reducible refine Sy.ux_build ?_); refine Sy.sx_build T (h := ?_); (conv => whnf); (repeat (refine ⟨by first | exact rfl | exact ⟨rfl, rfl⟩, ?_⟩; (conv => whnf))); clear T; intro ac T) | (refine Sy.sx_pure T (h := ?_); clear T; intro ac T)); show Sy.wpUx _ _ _ _ _ _ _ _ _)
    | ((first | refine Sy.sx_unguard (T := T) (h := ?_) | refine Sy.sx_unguardH (T := T) (h := ?_)); clear T; intro ac T)
    | (with_reducible refine Sy.sx_fork ?_ ?_)
    | (with_reducible refine Sy.sx_nil ?_)
    | (with_reducible refine Sy.sx_end ?_)
    | (with_reducible refine Sy.sx_tail rfl rfl (fun K hK => ?_))
    | ((first | refine Sy.sx_new (T := T) (F := F) (hr := Sy.new_boxAgg T rfl) (h := ?_) | refine Sy.sx_new (T := T) (F := F) (hr := Sy.new_boxOne T rfl rfl) (h := ?_) | refine Sy.sx_new (T := T) (F := F) (hr := Sy.new_alloc rfl) (h := ?_)); clear T F; intro ac g w T F)
    | ((first | refine Sy.sx_storeAll (T := T) (F := F) (h := ?_) | (refine Sy.sx_storeOne (T := T) (F := F) (h := ?_); conv => whnf) | (refine Sy.sx_storeAgg (T := T) (F := F) (h := ?_); conv => whnf)); clear T F; intro ac w T F))
    refine Sy.st_callV0 T F (hc := awake_any _) (h := ?_); (clear T F; intro ac w T F)
    repeat (first
    | (((with_reducible refine Sy.is_guard ?_); (first | refine Sy.st_guard T (h := ?_) | (refine Sy.st_unguard T (h := ?_); clear T; intro ac T))))
    | (((with_reducible refine Sy.is_load ?_); (first | refine Sy.st_loadOne T F (h := ?_) | refine Sy.st_oldOne T F (h := ?_) | refine Sy.st_loadAll T F (h := ?_) | (refine Sy.st_loadCut T F (h := ?_); conv => whnf) | refine Sy.st_oldAgg T F (h := ?_) | (refine Sy.st_oldCut T F (h := ?_); conv => whnf)); clear T; intro ac T))
    | (((with_reducible refine Sy.is_store ?_); (first | refine Sy.st_storeAll T F (h := ?_) | (refine Sy.st_storeOne T F (h := ?_); conv => whnf) | (refine Sy.st_storeAgg T F (h := ?_); conv => whnf)); clear T F; intro ac w T F))
    | (((with_reducible refine Sy.is_box ?_); (first | refine Sy.st_boxAgg T F (h := ?_) | refine Sy.st_boxOne T F (h := ?_)); clear T F; intro ac g w T F))
    | (((with_reducible refine Sy.is_alloc ?_); refine Sy.st_alloc T F (h := ?_); clear T F; intro ac g w T F))
    | (((with_reducible refine Sy.is_build ?_); refine Sy.st_build T (h := ?_); (conv => whnf); (repeat (refine ⟨by first | exact rfl | exact ⟨rfl, rfl⟩, ?_⟩; (conv => whnf))); clear T; intro ac T))
    | (((with_reducible refine Sy.is_op ?_); refine Sy.st_pure T (h := ?_); clear T; intro ac T))
    | ((with_reducible refine Sy.atK (hK _ _ ?_)))
    | ((with_reducible refine Sy.is_cond ?_); (first | refine Sy.st_true T (h := ?_) | refine Sy.st_false T (h := ?_)))
    | (with_reducible refine wpList_nil ?_)
    | (with_reducible refine wp_region_lit ?_)
    | (with_reducible refine wp_block ?_)
    | (with_reducible refine wp_skip ?_)
    | (with_reducible refine wp_exit ?_)
    | (with_reducible refine wp_ret ?_)
    | ((with_reducible refine wp_seq_k ?_); intro _ _)
    | (go_at_K; go_step)
    | (simp only [Exit.then, Exit.inBlock, ↓reduceIte, Nat.reduceEqDiff])
    | ((with_reducible refine Sy.is_drawn (id := 13) ?_); refine Sy.sx_region F [] (.t 0 (.t 1 (.t 2 (.t 3 (.t 4 (.t 5 (.t 6 (.t 7 (.t 8 (.t 9 (.t 10 (.t 11 (.t 12 (.t 13 (.t 14 (.t 15 .e)))))))))))))))) [16, 17] (by kernel_rfl) ?_; (clear F; intro w F))
    | ((first | refine Sy.sx_plain (h := ?_) | refine Sy.sx_guard (T := T) (h := ?_)); (first | ((with_reducible refine Sy.ux_load ?_); (first | refine Sy.sx_val (Sy.rx_loadOne T F) T rfl ?_ | refine Sy.sx_val (Sy.rx_oldOne T F) T rfl ?_ | refine Sy.sx_val (Sy.rx_loadAll T F) T rfl ?_ | (refine Sy.sx_loadCut T F (h := ?_); conv => whnf) | refine Sy.sx_val (Sy.rx_oldAgg T F) T rfl ?_ | (refine Sy.sx_oldCut T F (h := ?_); conv => whnf)); clear T; intro ac T) | ((with_reducible refine Sy.ux_build ?_); refine Sy.sx_build T (h := ?_); (conv => whnf); (repeat (refine ⟨by first | exact rfl | exact ⟨rfl, rfl⟩, ?_⟩; (conv => whnf))); clear T; intro ac T) | (refine Sy.sx_pure T (h := ?_); clear T; intro ac T)); show Sy.wpUx _ _ _ _ _ _ _ _ _)
    | ((first | refine Sy.sx_unguard (T := T) (h := ?_) | refine Sy.sx_unguardH (T := T) (h := ?_)); clear T; intro ac T)
    | (with_reducible refine Sy.sx_fork ?_ ?_)
    | (with_reducible refine Sy.sx_nil ?_)
    | (with_reducible refine Sy.sx_end ?_)
    | (with_reducible refine Sy.sx_tail rfl rfl (fun K hK => ?_))
    | ((first | refine Sy.sx_new (T := T) (F := F) (hr := Sy.new_boxAgg T rfl) (h := ?_) | refine Sy.sx_new (T := T) (F := F) (hr := Sy.new_boxOne T rfl rfl) (h := ?_) | refine Sy.sx_new (T := T) (F := F) (hr := Sy.new_alloc rfl) (h := ?_)); clear T F; intro ac g w T F)
    | ((first | refine Sy.sx_storeAll (T := T) (F := F) (h := ?_) | (refine Sy.sx_storeOne (T := T) (F := F) (h := ?_); conv => whnf) | (refine Sy.sx_storeAgg (T := T) (F := F) (h := ?_); conv => whnf)); clear T F; intro ac w T F))
    ((try simp only [Exit.inBlock, Exit.then]); refine Sy.st_ret1 T F rfl (by repeat (first | exact Sy.ResV.nil | apply Sy.ResV.tmp rfl | apply Sy.ResV.row rfl rfl rfl (by repeat (first | exact Sy.Take.here | apply Sy.Take.there)) (by rfl) | apply Sy.ResV.one rfl rfl rfl (by repeat (first | exact Sy.Take.here | apply Sy.Take.there)) (by rfl))) ?_)
    exact F.retV _
  | false =>
  rw [hg] at G
  refine Sy.st_callV0 T F (hc := G) (h := ?_); (clear T F; intro ac w T F)
  clear G
  have hs := Rg.short_of hg
  by_cases hv0 : v = 0
  · have t1 := eqT (a := (v : Int)) (b := 0) (by omega)
    repeat (first
    | (((with_reducible refine Sy.is_guard ?_); (first | refine Sy.st_guard T (h := ?_) | (refine Sy.st_unguard T (h := ?_); clear T; intro ac T))))
    | (((with_reducible refine Sy.is_load ?_); (first | refine Sy.st_loadOne T F (h := ?_) | refine Sy.st_oldOne T F (h := ?_) | refine Sy.st_loadAll T F (h := ?_) | (refine Sy.st_loadCut T F (h := ?_); conv => whnf) | refine Sy.st_oldAgg T F (h := ?_) | (refine Sy.st_oldCut T F (h := ?_); conv => whnf)); clear T; intro ac T))
    | (((with_reducible refine Sy.is_store ?_); (first | refine Sy.st_storeAll T F (h := ?_) | (refine Sy.st_storeOne T F (h := ?_); conv => whnf) | (refine Sy.st_storeAgg T F (h := ?_); conv => whnf)); clear T F; intro ac w T F))
    | (((with_reducible refine Sy.is_box ?_); (first | refine Sy.st_boxAgg T F (h := ?_) | refine Sy.st_boxOne T F (h := ?_)); clear T F; intro ac g w T F))
    | (((with_reducible refine Sy.is_alloc ?_); refine Sy.st_alloc T F (h := ?_); clear T F; intro ac g w T F))
    | (((with_reducible refine Sy.is_build ?_); refine Sy.st_build T (h := ?_); (conv => whnf); (repeat (refine ⟨by first | exact rfl | exact ⟨rfl, rfl⟩, ?_⟩; (conv => whnf))); clear T; intro ac T))
    | (((with_reducible refine Sy.is_op ?_); refine Sy.st_pure T (h := ?_); clear T; intro ac T))
    | ((with_reducible refine Sy.atK (hK _ _ ?_)))
    | ((with_reducible refine Sy.is_cond ?_); (first | refine Sy.st_true T (h := ?_) | refine Sy.st_false T (h := ?_)))
    | (with_reducible refine wpList_nil ?_)
    | (with_reducible refine wp_region_lit ?_)
    | (with_reducible refine wp_block ?_)
    | (with_reducible refine wp_skip ?_)
    | (with_reducible refine wp_exit ?_)
    | (with_reducible refine wp_ret ?_)
    | ((with_reducible refine wp_seq_k ?_); intro _ _)
    | (go_at_K; go_step)
    | (simp only [Exit.then, Exit.inBlock, ↓reduceIte, Nat.reduceEqDiff])
    | ((with_reducible refine Sy.is_drawn (id := 13) ?_); refine Sy.sx_region F [] (.t 0 (.t 1 (.t 2 (.t 3 (.t 4 (.t 5 (.t 6 (.t 7 (.t 8 (.t 9 (.t 10 (.t 11 (.t 12 (.t 13 (.t 14 (.t 15 .e)))))))))))))))) [16, 17] (by kernel_rfl) ?_; (clear F; intro w F))
    | ((first | refine Sy.sx_plain (h := ?_) | refine Sy.sx_guard (T := T) (h := ?_)); (first | ((with_reducible refine Sy.ux_load ?_); (first | refine Sy.sx_val (Sy.rx_loadOne T F) T rfl ?_ | refine Sy.sx_val (Sy.rx_oldOne T F) T rfl ?_ | refine Sy.sx_val (Sy.rx_loadAll T F) T rfl ?_ | (refine Sy.sx_loadCut T F (h := ?_); conv => whnf) | refine Sy.sx_val (Sy.rx_oldAgg T F) T rfl ?_ | (refine Sy.sx_oldCut T F (h := ?_); conv => whnf)); clear T; intro ac T) | ((with_reducible refine Sy.ux_build ?_); refine Sy.sx_build T (h := ?_); (conv => whnf); (repeat (refine ⟨by first | exact rfl | exact ⟨rfl, rfl⟩, ?_⟩; (conv => whnf))); clear T; intro ac T) | (refine Sy.sx_pure T (h := ?_); clear T; intro ac T)); show Sy.wpUx _ _ _ _ _ _ _ _ _)
    | ((first | refine Sy.sx_unguard (T := T) (h := ?_) | refine Sy.sx_unguardH (T := T) (h := ?_)); clear T; intro ac T)
    | (with_reducible refine Sy.sx_fork ?_ ?_)
    | (with_reducible refine Sy.sx_nil ?_)
    | (with_reducible refine Sy.sx_end ?_)
    | (with_reducible refine Sy.sx_tail rfl rfl (fun K hK => ?_))
    | ((first | refine Sy.sx_new (T := T) (F := F) (hr := Sy.new_boxAgg T rfl) (h := ?_) | refine Sy.sx_new (T := T) (F := F) (hr := Sy.new_boxOne T rfl rfl) (h := ?_) | refine Sy.sx_new (T := T) (F := F) (hr := Sy.new_alloc rfl) (h := ?_)); clear T F; intro ac g w T F)
    | ((first | refine Sy.sx_storeAll (T := T) (F := F) (h := ?_) | (refine Sy.sx_storeOne (T := T) (F := F) (h := ?_); conv => whnf) | (refine Sy.sx_storeAgg (T := T) (F := F) (h := ?_); conv => whnf)); clear T F; intro ac w T F))
    refine Sy.st_callV0 T F (hc := awake_any _) (h := ?_); (clear T F; intro ac w T F)
    repeat (first
    | (((with_reducible refine Sy.is_guard ?_); (first | refine Sy.st_guard T (h := ?_) | (refine Sy.st_unguard T (h := ?_); clear T; intro ac T))))
    | (((with_reducible refine Sy.is_load ?_); (first | refine Sy.st_loadOne T F (h := ?_) | refine Sy.st_oldOne T F (h := ?_) | refine Sy.st_loadAll T F (h := ?_) | (refine Sy.st_loadCut T F (h := ?_); conv => whnf) | refine Sy.st_oldAgg T F (h := ?_) | (refine Sy.st_oldCut T F (h := ?_); conv => whnf)); clear T; intro ac T))
    | (((with_reducible refine Sy.is_store ?_); (first | refine Sy.st_storeAll T F (h := ?_) | (refine Sy.st_storeOne T F (h := ?_); conv => whnf) | (refine Sy.st_storeAgg T F (h := ?_); conv => whnf)); clear T F; intro ac w T F))
    | (((with_reducible refine Sy.is_box ?_); (first | refine Sy.st_boxAgg T F (h := ?_) | refine Sy.st_boxOne T F (h := ?_)); clear T F; intro ac g w T F))
    | (((with_reducible refine Sy.is_alloc ?_); refine Sy.st_alloc T F (h := ?_); clear T F; intro ac g w T F))
    | (((with_reducible refine Sy.is_build ?_); refine Sy.st_build T (h := ?_); (conv => whnf); (repeat (refine ⟨by first | exact rfl | exact ⟨rfl, rfl⟩, ?_⟩; (conv => whnf))); clear T; intro ac T))
    | (((with_reducible refine Sy.is_op ?_); refine Sy.st_pure T (h := ?_); clear T; intro ac T))
    | ((with_reducible refine Sy.atK (hK _ _ ?_)))
    | ((with_reducible refine Sy.is_cond ?_); (first | refine Sy.st_true T (h := ?_) | refine Sy.st_false T (h := ?_)))
    | (with_reducible refine wpList_nil ?_)
    | (with_reducible refine wp_region_lit ?_)
    | (with_reducible refine wp_block ?_)
    | (with_reducible refine wp_skip ?_)
    | (with_reducible refine wp_exit ?_)
    | (with_reducible refine wp_ret ?_)
    | ((with_reducible refine wp_seq_k ?_); intro _ _)
    | (go_at_K; go_step)
    | (simp only [Exit.then, Exit.inBlock, ↓reduceIte, Nat.reduceEqDiff])
    | ((with_reducible refine Sy.is_drawn (id := 13) ?_); refine Sy.sx_region F [] (.t 0 (.t 1 (.t 2 (.t 3 (.t 4 (.t 5 (.t 6 (.t 7 (.t 8 (.t 9 (.t 10 (.t 11 (.t 12 (.t 13 (.t 14 (.t 15 .e)))))))))))))))) [16, 17] (by kernel_rfl) ?_; (clear F; intro w F))
    | ((first | refine Sy.sx_plain (h := ?_) | refine Sy.sx_guard (T := T) (h := ?_)); (first | ((with_reducible refine Sy.ux_load ?_); (first | refine Sy.sx_val (Sy.rx_loadOne T F) T rfl ?_ | refine Sy.sx_val (Sy.rx_oldOne T F) T rfl ?_ | refine Sy.sx_val (Sy.rx_loadAll T F) T rfl ?_ | (refine Sy.sx_loadCut T F (h := ?_); conv => whnf) | refine Sy.sx_val (Sy.rx_oldAgg T F) T rfl ?_ | (refine Sy.sx_oldCut T F (h := ?_); conv => whnf)); clear T; intro ac T) | ((with_reducible refine Sy.ux_build ?_); refine Sy.sx_build T (h := ?_); (conv => whnf); (repeat (refine ⟨by first | exact rfl | exact ⟨rfl, rfl⟩, ?_⟩; (conv => whnf))); clear T; intro ac T) | (refine Sy.sx_pure T (h := ?_); clear T; intro ac T)); show Sy.wpUx _ _ _ _ _ _ _ _ _)
    | ((first | refine Sy.sx_unguard (T := T) (h := ?_) | refine Sy.sx_unguardH (T := T) (h := ?_)); clear T; intro ac T)
    | (with_reducible refine Sy.sx_fork ?_ ?_)
    | (with_reducible refine Sy.sx_nil ?_)
    | (with_reducible refine Sy.sx_end ?_)
    | (with_reducible refine Sy.sx_tail rfl rfl (fun K hK => ?_))
    | ((first | refine Sy.sx_new (T := T) (F := F) (hr := Sy.new_boxAgg T rfl) (h := ?_) | refine Sy.sx_new (T := T) (F := F) (hr := Sy.new_boxOne T rfl rfl) (h := ?_) | refine Sy.sx_new (T := T) (F := F) (hr := Sy.new_alloc rfl) (h := ?_)); clear T F; intro ac g w T F)
    | ((first | refine Sy.sx_storeAll (T := T) (F := F) (h := ?_) | (refine Sy.sx_storeOne (T := T) (F := F) (h := ?_); conv => whnf) | (refine Sy.sx_storeAgg (T := T) (F := F) (h := ?_); conv => whnf)); clear T F; intro ac w T F))
    ((try simp only [Exit.inBlock, Exit.then]); refine Sy.st_ret1 T F rfl (by repeat (first | exact Sy.ResV.nil | apply Sy.ResV.tmp rfl | apply Sy.ResV.row rfl rfl rfl (by repeat (first | exact Sy.Take.here | apply Sy.Take.there)) (by rfl) | apply Sy.ResV.one rfl rfl rfl (by repeat (first | exact Sy.Take.here | apply Sy.Take.there)) (by rfl))) ?_)
    exact F.retV _
  have t1 := eqF (a := (v : Int)) (b := 0) (by omega)
  repeat (first
    | (((with_reducible refine Sy.is_guard ?_); (first | refine Sy.st_guard T (h := ?_) | (refine Sy.st_unguard T (h := ?_); clear T; intro ac T))))
    | (((with_reducible refine Sy.is_load ?_); (first | refine Sy.st_loadOne T F (h := ?_) | refine Sy.st_oldOne T F (h := ?_) | refine Sy.st_loadAll T F (h := ?_) | (refine Sy.st_loadCut T F (h := ?_); conv => whnf) | refine Sy.st_oldAgg T F (h := ?_) | (refine Sy.st_oldCut T F (h := ?_); conv => whnf)); clear T; intro ac T))
    | (((with_reducible refine Sy.is_store ?_); (first | refine Sy.st_storeAll T F (h := ?_) | (refine Sy.st_storeOne T F (h := ?_); conv => whnf) | (refine Sy.st_storeAgg T F (h := ?_); conv => whnf)); clear T F; intro ac w T F))
    | (((with_reducible refine Sy.is_box ?_); (first | refine Sy.st_boxAgg T F (h := ?_) | refine Sy.st_boxOne T F (h := ?_)); clear T F; intro ac g w T F))
    | (((with_reducible refine Sy.is_alloc ?_); refine Sy.st_alloc T F (h := ?_); clear T F; intro ac g w T F))
    | (((with_reducible refine Sy.is_build ?_); refine Sy.st_build T (h := ?_); (conv => whnf); (repeat (refine ⟨by first | exact rfl | exact ⟨rfl, rfl⟩, ?_⟩; (conv => whnf))); clear T; intro ac T))
    | (((with_reducible refine Sy.is_op ?_); refine Sy.st_pure T (h := ?_); clear T; intro ac T))
    | ((with_reducible refine Sy.atK (hK _ _ ?_)))
    | ((with_reducible refine Sy.is_cond ?_); (first | refine Sy.st_true T (h := ?_) | refine Sy.st_false T (h := ?_)))
    | (with_reducible refine wpList_nil ?_)
    | (with_reducible refine wp_region_lit ?_)
    | (with_reducible refine wp_block ?_)
    | (with_reducible refine wp_skip ?_)
    | (with_reducible refine wp_exit ?_)
    | (with_reducible refine wp_ret ?_)
    | ((with_reducible refine wp_seq_k ?_); intro _ _)
    | (go_at_K; go_step)
    | (simp only [Exit.then, Exit.inBlock, ↓reduceIte, Nat.reduceEqDiff])
    | ((with_reducible refine Sy.is_drawn (id := 13) ?_); refine Sy.sx_region F [] (.t 0 (.t 1 (.t 2 (.t 3 (.t 4 (.t 5 (.t 6 (.t 7 (.t 8 (.t 9 (.t 10 (.t 11 (.t 12 (.t 13 (.t 14 (.t 15 .e)))))))))))))))) [16, 17] (by kernel_rfl) ?_; (clear F; intro w F))
    | ((first | refine Sy.sx_plain (h := ?_) | refine Sy.sx_guard (T := T) (h := ?_)); (first | ((with_reducible refine Sy.ux_load ?_); (first | refine Sy.sx_val (Sy.rx_loadOne T F) T rfl ?_ | refine Sy.sx_val (Sy.rx_oldOne T F) T rfl ?_ | refine Sy.sx_val (Sy.rx_loadAll T F) T rfl ?_ | (refine Sy.sx_loadCut T F (h := ?_); conv => whnf) | refine Sy.sx_val (Sy.rx_oldAgg T F) T rfl ?_ | (refine Sy.sx_oldCut T F (h := ?_); conv => whnf)); clear T; intro ac T) | ((with_reducible refine Sy.ux_build ?_); refine Sy.sx_build T (h := ?_); (conv => whnf); (repeat (refine ⟨by first | exact rfl | exact ⟨rfl, rfl⟩, ?_⟩; (conv => whnf))); clear T; intro ac T) | (refine Sy.sx_pure T (h := ?_); clear T; intro ac T)); show Sy.wpUx _ _ _ _ _ _ _ _ _)
    | ((first | refine Sy.sx_unguard (T := T) (h := ?_) | refine Sy.sx_unguardH (T := T) (h := ?_)); clear T; intro ac T)
    | (with_reducible refine Sy.sx_fork ?_ ?_)
    | (with_reducible refine Sy.sx_nil ?_)
    | (with_reducible refine Sy.sx_end ?_)
    | (with_reducible refine Sy.sx_tail rfl rfl (fun K hK => ?_))
    | ((first | refine Sy.sx_new (T := T) (F := F) (hr := Sy.new_boxAgg T rfl) (h := ?_) | refine Sy.sx_new (T := T) (F := F) (hr := Sy.new_boxOne T rfl rfl) (h := ?_) | refine Sy.sx_new (T := T) (F := F) (hr := Sy.new_alloc rfl) (h := ?_)); clear T F; intro ac g w T F)
    | ((first | refine Sy.sx_storeAll (T := T) (F := F) (h := ?_) | (refine Sy.sx_storeOne (T := T) (F := F) (h := ?_); conv => whnf) | (refine Sy.sx_storeAgg (T := T) (F := F) (h := ?_); conv => whnf)); clear T F; intro ac w T F))
  by_cases hm : MayM m
  case neg =>
    have G := put_no w m p (h.sub F.sub) hs hm; refine Sy.st_callV0 T F (hc := G) (h := ?_); (clear T F G; intro ac w T F)
    repeat (first
    | (((with_reducible refine Sy.is_guard ?_); (first | refine Sy.st_guard T (h := ?_) | (refine Sy.st_unguard T (h := ?_); clear T; intro ac T))))
    | (((with_reducible refine Sy.is_load ?_); (first | refine Sy.st_loadOne T F (h := ?_) | refine Sy.st_oldOne T F (h := ?_) | refine Sy.st_loadAll T F (h := ?_) | (refine Sy.st_loadCut T F (h := ?_); conv => whnf) | refine Sy.st_oldAgg T F (h := ?_) | (refine Sy.st_oldCut T F (h := ?_); conv => whnf)); clear T; intro ac T))
    | (((with_reducible refine Sy.is_store ?_); (first | refine Sy.st_storeAll T F (h := ?_) | (refine Sy.st_storeOne T F (h := ?_); conv => whnf) | (refine Sy.st_storeAgg T F (h := ?_); conv => whnf)); clear T F; intro ac w T F))
    | (((with_reducible refine Sy.is_box ?_); (first | refine Sy.st_boxAgg T F (h := ?_) | refine Sy.st_boxOne T F (h := ?_)); clear T F; intro ac g w T F))
    | (((with_reducible refine Sy.is_alloc ?_); refine Sy.st_alloc T F (h := ?_); clear T F; intro ac g w T F))
    | (((with_reducible refine Sy.is_build ?_); refine Sy.st_build T (h := ?_); (conv => whnf); (repeat (refine ⟨by first | exact rfl | exact ⟨rfl, rfl⟩, ?_⟩; (conv => whnf))); clear T; intro ac T))
    | (((with_reducible refine Sy.is_op ?_); refine Sy.st_pure T (h := ?_); clear T; intro ac T))
    | ((with_reducible refine Sy.atK (hK _ _ ?_)))
    | ((with_reducible refine Sy.is_cond ?_); (first | refine Sy.st_true T (h := ?_) | refine Sy.st_false T (h := ?_)))
    | (with_reducible refine wpList_nil ?_)
    | (with_reducible refine wp_region_lit ?_)
    | (with_reducible refine wp_block ?_)
    | (with_reducible refine wp_skip ?_)
    | (with_reducible refine wp_exit ?_)
    | (with_reducible refine wp_ret ?_)
    | ((with_reducible refine wp_seq_k ?_); intro _ _)
    | (go_at_K; go_step)
    | (simp only [Exit.then, Exit.inBlock, ↓reduceIte, Nat.reduceEqDiff])
    | ((with_reducible refine Sy.is_drawn (id := 13) ?_); refine Sy.sx_region F [] (.t 0 (.t 1 (.t 2 (.t 3 (.t 4 (.t 5 (.t 6 (.t 7 (.t 8 (.t 9 (.t 10 (.t 11 (.t 12 (.t 13 (.t 14 (.t 15 .e)))))))))))))))) [16, 17] (by kernel_rfl) ?_; (clear F; intro w F))
    | ((first | refine Sy.sx_plain (h := ?_) | refine Sy.sx_guard (T := T) (h := ?_)); (first | ((with_reducible refine Sy.ux_load ?_); (first | refine Sy.sx_val (Sy.rx_loadOne T F) T rfl ?_ | refine Sy.sx_val (Sy.rx_oldOne T F) T rfl ?_ | refine Sy.sx_val (Sy.rx_loadAll T F) T rfl ?_ | (refine Sy.sx_loadCut T F (h := ?_); conv => whnf) | refine Sy.sx_val (Sy.rx_oldAgg T F) T rfl ?_ | (refine Sy.sx_oldCut T F (h := ?_); conv => whnf)); clear T; intro ac T) | ((with_reducible refine Sy.ux_build ?_); refine Sy.sx_build T (h := ?_); (conv => whnf); (repeat (refine ⟨by first | exact rfl | exact ⟨rfl, rfl⟩, ?_⟩; (conv => whnf))); clear T; intro ac T) | (refine Sy.sx_pure T (h := ?_); clear T; intro ac T)); show Sy.wpUx _ _ _ _ _ _ _ _ _)
    | ((first | refine Sy.sx_unguard (T := T) (h := ?_) | refine Sy.sx_unguardH (T := T) (h := ?_)); clear T; intro ac T)
    | (with_reducible refine Sy.sx_fork ?_ ?_)
    | (with_reducible refine Sy.sx_nil ?_)
    | (with_reducible refine Sy.sx_end ?_)
    | (with_reducible refine Sy.sx_tail rfl rfl (fun K hK => ?_))
    | ((first | refine Sy.sx_new (T := T) (F := F) (hr := Sy.new_boxAgg T rfl) (h := ?_) | refine Sy.sx_new (T := T) (F := F) (hr := Sy.new_boxOne T rfl rfl) (h := ?_) | refine Sy.sx_new (T := T) (F := F) (hr := Sy.new_alloc rfl) (h := ?_)); clear T F; intro ac g w T F)
    | ((first | refine Sy.sx_storeAll (T := T) (F := F) (h := ?_) | (refine Sy.sx_storeOne (T := T) (F := F) (h := ?_); conv => whnf) | (refine Sy.sx_storeAgg (T := T) (F := F) (h := ?_); conv => whnf)); clear T F; intro ac w T F))
    refine Sy.st_callV0 T F (hc := awake_any _) (h := ?_); (clear T F; intro ac w T F)
    repeat (first
    | (((with_reducible refine Sy.is_guard ?_); (first | refine Sy.st_guard T (h := ?_) | (refine Sy.st_unguard T (h := ?_); clear T; intro ac T))))
    | (((with_reducible refine Sy.is_load ?_); (first | refine Sy.st_loadOne T F (h := ?_) | refine Sy.st_oldOne T F (h := ?_) | refine Sy.st_loadAll T F (h := ?_) | (refine Sy.st_loadCut T F (h := ?_); conv => whnf) | refine Sy.st_oldAgg T F (h := ?_) | (refine Sy.st_oldCut T F (h := ?_); conv => whnf)); clear T; intro ac T))
    | (((with_reducible refine Sy.is_store ?_); (first | refine Sy.st_storeAll T F (h := ?_) | (refine Sy.st_storeOne T F (h := ?_); conv => whnf) | (refine Sy.st_storeAgg T F (h := ?_); conv => whnf)); clear T F; intro ac w T F))
    | (((with_reducible refine Sy.is_box ?_); (first | refine Sy.st_boxAgg T F (h := ?_) | refine Sy.st_boxOne T F (h := ?_)); clear T F; intro ac g w T F))
    | (((with_reducible refine Sy.is_alloc ?_); refine Sy.st_alloc T F (h := ?_); clear T F; intro ac g w T F))
    | (((with_reducible refine Sy.is_build ?_); refine Sy.st_build T (h := ?_); (conv => whnf); (repeat (refine ⟨by first | exact rfl | exact ⟨rfl, rfl⟩, ?_⟩; (conv => whnf))); clear T; intro ac T))
    | (((with_reducible refine Sy.is_op ?_); refine Sy.st_pure T (h := ?_); clear T; intro ac T))
    | ((with_reducible refine Sy.atK (hK _ _ ?_)))
    | ((with_reducible refine Sy.is_cond ?_); (first | refine Sy.st_true T (h := ?_) | refine Sy.st_false T (h := ?_)))
    | (with_reducible refine wpList_nil ?_)
    | (with_reducible refine wp_region_lit ?_)
    | (with_reducible refine wp_block ?_)
    | (with_reducible refine wp_skip ?_)
    | (with_reducible refine wp_exit ?_)
    | (with_reducible refine wp_ret ?_)
    | ((with_reducible refine wp_seq_k ?_); intro _ _)
    | (go_at_K; go_step)
    | (simp only [Exit.then, Exit.inBlock, ↓reduceIte, Nat.reduceEqDiff])
    | ((with_reducible refine Sy.is_drawn (id := 13) ?_); refine Sy.sx_region F [] (.t 0 (.t 1 (.t 2 (.t 3 (.t 4 (.t 5 (.t 6 (.t 7 (.t 8 (.t 9 (.t 10 (.t 11 (.t 12 (.t 13 (.t 14 (.t 15 .e)))))))))))))))) [16, 17] (by kernel_rfl) ?_; (clear F; intro w F))
    | ((first | refine Sy.sx_plain (h := ?_) | refine Sy.sx_guard (T := T) (h := ?_)); (first | ((with_reducible refine Sy.ux_load ?_); (first | refine Sy.sx_val (Sy.rx_loadOne T F) T rfl ?_ | refine Sy.sx_val (Sy.rx_oldOne T F) T rfl ?_ | refine Sy.sx_val (Sy.rx_loadAll T F) T rfl ?_ | (refine Sy.sx_loadCut T F (h := ?_); conv => whnf) | refine Sy.sx_val (Sy.rx_oldAgg T F) T rfl ?_ | (refine Sy.sx_oldCut T F (h := ?_); conv => whnf)); clear T; intro ac T) | ((with_reducible refine Sy.ux_build ?_); refine Sy.sx_build T (h := ?_); (conv => whnf); (repeat (refine ⟨by first | exact rfl | exact ⟨rfl, rfl⟩, ?_⟩; (conv => whnf))); clear T; intro ac T) | (refine Sy.sx_pure T (h := ?_); clear T; intro ac T)); show Sy.wpUx _ _ _ _ _ _ _ _ _)
    | ((first | refine Sy.sx_unguard (T := T) (h := ?_) | refine Sy.sx_unguardH (T := T) (h := ?_)); clear T; intro ac T)
    | (with_reducible refine Sy.sx_fork ?_ ?_)
    | (with_reducible refine Sy.sx_nil ?_)
    | (with_reducible refine Sy.sx_end ?_)
    | (with_reducible refine Sy.sx_tail rfl rfl (fun K hK => ?_))
    | ((first | refine Sy.sx_new (T := T) (F := F) (hr := Sy.new_boxAgg T rfl) (h := ?_) | refine Sy.sx_new (T := T) (F := F) (hr := Sy.new_boxOne T rfl rfl) (h := ?_) | refine Sy.sx_new (T := T) (F := F) (hr := Sy.new_alloc rfl) (h := ?_)); clear T F; intro ac g w T F)
    | ((first | refine Sy.sx_storeAll (T := T) (F := F) (h := ?_) | (refine Sy.sx_storeOne (T := T) (F := F) (h := ?_); conv => whnf) | (refine Sy.sx_storeAgg (T := T) (F := F) (h := ?_); conv => whnf)); clear T F; intro ac w T F))
    ((try simp only [Exit.inBlock, Exit.then]); refine Sy.st_ret1 T F rfl (by repeat (first | exact Sy.ResV.nil | apply Sy.ResV.tmp rfl | apply Sy.ResV.row rfl rfl rfl (by repeat (first | exact Sy.Take.here | apply Sy.Take.there)) (by rfl) | apply Sy.ResV.one rfl rfl rfl (by repeat (first | exact Sy.Take.here | apply Sy.Take.there)) (by rfl))) ?_)
    exact F.retV _
  refine Sy.st_call (us := []) (ks := []) T rfl rfl rfl rfl (put_yes w m p (h.sub F.sub) hs hm) ?_
  have hl1 := msgB_len h hs (may_reg hm)
  have hl2 := msgB_pos m (regB m.reg)
  have hl3 := mark_len (msgB m (regB m.reg))
  have hfit := fun x hx => spoil_fits (msgB m (regB m.reg)) x v hx hv hv0
  generalize msgB m (regB m.reg) = x at *
  rintro e w1 ⟨u, rfl, bel, hown⟩
  refine ⟨_, rfl, fun ac' T' => ?_⟩
  have F1 := F.slAcall bel hown
  clear F T bel
  have F := F1
  have T := T'
  clear F1 T'
  obtain ⟨a, cap, rfl, -, hn, hmx, hcs⟩ := hown
  obtain ⟨g, rfl⟩ : ∃ g, a = some ⟨g, 0, none⟩ := by
    rcases hcs with h0 | ⟨g, cur, h0, -⟩
    · omega
    · exact ⟨g, h0⟩
  clear hcs
  have t2 : decide (((markS x).length : Int) < 8) = false := decide_eq_false (by omega)
  by_cases hneg : i < 0
  · have t3 : decide (i < 0) = true := decide_eq_true hneg
    repeat (first
    | (((with_reducible refine Sy.is_guard ?_); (first | refine Sy.st_guard T (h := ?_) | (refine Sy.st_unguard T (h := ?_); clear T; intro ac T))))
    | (((with_reducible refine Sy.is_load ?_); (first | refine Sy.st_loadOne T F (h := ?_) | refine Sy.st_oldOne T F (h := ?_) | refine Sy.st_loadAll T F (h := ?_) | (refine Sy.st_loadCut T F (h := ?_); conv => whnf) | refine Sy.st_oldAgg T F (h := ?_) | (refine Sy.st_oldCut T F (h := ?_); conv => whnf)); clear T; intro ac T))
    | (((with_reducible refine Sy.is_store ?_); (first | refine Sy.st_storeAll T F (h := ?_) | (refine Sy.st_storeOne T F (h := ?_); conv => whnf) | (refine Sy.st_storeAgg T F (h := ?_); conv => whnf)); clear T F; intro ac w T F))
    | (((with_reducible refine Sy.is_box ?_); (first | refine Sy.st_boxAgg T F (h := ?_) | refine Sy.st_boxOne T F (h := ?_)); clear T F; intro ac g w T F))
    | (((with_reducible refine Sy.is_alloc ?_); refine Sy.st_alloc T F (h := ?_); clear T F; intro ac g w T F))
    | (((with_reducible refine Sy.is_build ?_); refine Sy.st_build T (h := ?_); (conv => whnf); (repeat (refine ⟨by first | exact rfl | exact ⟨rfl, rfl⟩, ?_⟩; (conv => whnf))); clear T; intro ac T))
    | (((with_reducible refine Sy.is_op ?_); refine Sy.st_pure T (h := ?_); clear T; intro ac T))
    | ((with_reducible refine Sy.atK (hK _ _ ?_)))
    | ((with_reducible refine Sy.is_cond ?_); (first | refine Sy.st_true T (h := ?_) | refine Sy.st_false T (h := ?_)))
    | (with_reducible refine wpList_nil ?_)
    | (with_reducible refine wp_region_lit ?_)
    | (with_reducible refine wp_block ?_)
    | (with_reducible refine wp_skip ?_)
    | (with_reducible refine wp_exit ?_)
    | (with_reducible refine wp_ret ?_)
    | ((with_reducible refine wp_seq_k ?_); intro _ _)
    | (go_at_K; go_step)
    | (simp only [Exit.then, Exit.inBlock, ↓reduceIte, Nat.reduceEqDiff])
    | ((with_reducible refine Sy.is_drawn (id := 13) ?_); refine Sy.sx_region F [] (.t 0 (.t 1 (.t 2 (.t 3 (.t 4 (.t 5 (.t 6 (.t 7 (.t 8 (.t 9 (.t 10 (.t 11 (.t 12 (.t 13 (.t 14 (.t 15 .e)))))))))))))))) [16, 17] (by kernel_rfl) ?_; (clear F; intro w F))
    | ((first | refine Sy.sx_plain (h := ?_) | refine Sy.sx_guard (T := T) (h := ?_)); (first | ((with_reducible refine Sy.ux_load ?_); (first | refine Sy.sx_val (Sy.rx_loadOne T F) T rfl ?_ | refine Sy.sx_val (Sy.rx_oldOne T F) T rfl ?_ | refine Sy.sx_val (Sy.rx_loadAll T F) T rfl ?_ | (refine Sy.sx_loadCut T F (h := ?_); conv => whnf) | refine Sy.sx_val (Sy.rx_oldAgg T F) T rfl ?_ | (refine Sy.sx_oldCut T F (h := ?_); conv => whnf)); clear T; intro ac T) | ((with_reducible refine Sy.ux_build ?_); refine Sy.sx_build T (h := ?_); (conv => whnf); (repeat (refine ⟨by first | exact rfl | exact ⟨rfl, rfl⟩, ?_⟩; (conv => whnf))); clear T; intro ac T) | (refine Sy.sx_pure T (h := ?_); clear T; intro ac T)); show Sy.wpUx _ _ _ _ _ _ _ _ _)
    | ((first | refine Sy.sx_unguard (T := T) (h := ?_) | refine Sy.sx_unguardH (T := T) (h := ?_)); clear T; intro ac T)
    | (with_reducible refine Sy.sx_fork ?_ ?_)
    | (with_reducible refine Sy.sx_nil ?_)
    | (with_reducible refine Sy.sx_end ?_)
    | (with_reducible refine Sy.sx_tail rfl rfl (fun K hK => ?_))
    | ((first | refine Sy.sx_new (T := T) (F := F) (hr := Sy.new_boxAgg T rfl) (h := ?_) | refine Sy.sx_new (T := T) (F := F) (hr := Sy.new_boxOne T rfl rfl) (h := ?_) | refine Sy.sx_new (T := T) (F := F) (hr := Sy.new_alloc rfl) (h := ?_)); clear T F; intro ac g w T F)
    | ((first | refine Sy.sx_storeAll (T := T) (F := F) (h := ?_) | (refine Sy.sx_storeOne (T := T) (F := F) (h := ?_); conv => whnf) | (refine Sy.sx_storeAgg (T := T) (F := F) (h := ?_); conv => whnf)); clear T F; intro ac w T F))
    refine Sy.st_callV0 T F (hc := awake_any _) (h := ?_); (clear T F; intro ac w T F)
    repeat (first
    | (((with_reducible refine Sy.is_guard ?_); (first | refine Sy.st_guard T (h := ?_) | (refine Sy.st_unguard T (h := ?_); clear T; intro ac T))))
    | (((with_reducible refine Sy.is_load ?_); (first | refine Sy.st_loadOne T F (h := ?_) | refine Sy.st_oldOne T F (h := ?_) | refine Sy.st_loadAll T F (h := ?_) | (refine Sy.st_loadCut T F (h := ?_); conv => whnf) | refine Sy.st_oldAgg T F (h := ?_) | (refine Sy.st_oldCut T F (h := ?_); conv => whnf)); clear T; intro ac T))
    | (((with_reducible refine Sy.is_store ?_); (first | refine Sy.st_storeAll T F (h := ?_) | (refine Sy.st_storeOne T F (h := ?_); conv => whnf) | (refine Sy.st_storeAgg T F (h := ?_); conv => whnf)); clear T F; intro ac w T F))
    | (((with_reducible refine Sy.is_box ?_); (first | refine Sy.st_boxAgg T F (h := ?_) | refine Sy.st_boxOne T F (h := ?_)); clear T F; intro ac g w T F))
    | (((with_reducible refine Sy.is_alloc ?_); refine Sy.st_alloc T F (h := ?_); clear T F; intro ac g w T F))
    | (((with_reducible refine Sy.is_build ?_); refine Sy.st_build T (h := ?_); (conv => whnf); (repeat (refine ⟨by first | exact rfl | exact ⟨rfl, rfl⟩, ?_⟩; (conv => whnf))); clear T; intro ac T))
    | (((with_reducible refine Sy.is_op ?_); refine Sy.st_pure T (h := ?_); clear T; intro ac T))
    | ((with_reducible refine Sy.atK (hK _ _ ?_)))
    | ((with_reducible refine Sy.is_cond ?_); (first | refine Sy.st_true T (h := ?_) | refine Sy.st_false T (h := ?_)))
    | (with_reducible refine wpList_nil ?_)
    | (with_reducible refine wp_region_lit ?_)
    | (with_reducible refine wp_block ?_)
    | (with_reducible refine wp_skip ?_)
    | (with_reducible refine wp_exit ?_)
    | (with_reducible refine wp_ret ?_)
    | ((with_reducible refine wp_seq_k ?_); intro _ _)
    | (go_at_K; go_step)
    | (simp only [Exit.then, Exit.inBlock, ↓reduceIte, Nat.reduceEqDiff])
    | ((with_reducible refine Sy.is_drawn (id := 13) ?_); refine Sy.sx_region F [] (.t 0 (.t 1 (.t 2 (.t 3 (.t 4 (.t 5 (.t 6 (.t 7 (.t 8 (.t 9 (.t 10 (.t 11 (.t 12 (.t 13 (.t 14 (.t 15 .e)))))))))))))))) [16, 17] (by kernel_rfl) ?_; (clear F; intro w F))
    | ((first | refine Sy.sx_plain (h := ?_) | refine Sy.sx_guard (T := T) (h := ?_)); (first | ((with_reducible refine Sy.ux_load ?_); (first | refine Sy.sx_val (Sy.rx_loadOne T F) T rfl ?_ | refine Sy.sx_val (Sy.rx_oldOne T F) T rfl ?_ | refine Sy.sx_val (Sy.rx_loadAll T F) T rfl ?_ | (refine Sy.sx_loadCut T F (h := ?_); conv => whnf) | refine Sy.sx_val (Sy.rx_oldAgg T F) T rfl ?_ | (refine Sy.sx_oldCut T F (h := ?_); conv => whnf)); clear T; intro ac T) | ((with_reducible refine Sy.ux_build ?_); refine Sy.sx_build T (h := ?_); (conv => whnf); (repeat (refine ⟨by first | exact rfl | exact ⟨rfl, rfl⟩, ?_⟩; (conv => whnf))); clear T; intro ac T) | (refine Sy.sx_pure T (h := ?_); clear T; intro ac T)); show Sy.wpUx _ _ _ _ _ _ _ _ _)
    | ((first | refine Sy.sx_unguard (T := T) (h := ?_) | refine Sy.sx_unguardH (T := T) (h := ?_)); clear T; intro ac T)
    | (with_reducible refine Sy.sx_fork ?_ ?_)
    | (with_reducible refine Sy.sx_nil ?_)
    | (with_reducible refine Sy.sx_end ?_)
    | (with_reducible refine Sy.sx_tail rfl rfl (fun K hK => ?_))
    | ((first | refine Sy.sx_new (T := T) (F := F) (hr := Sy.new_boxAgg T rfl) (h := ?_) | refine Sy.sx_new (T := T) (F := F) (hr := Sy.new_boxOne T rfl rfl) (h := ?_) | refine Sy.sx_new (T := T) (F := F) (hr := Sy.new_alloc rfl) (h := ?_)); clear T F; intro ac g w T F)
    | ((first | refine Sy.sx_storeAll (T := T) (F := F) (h := ?_) | (refine Sy.sx_storeOne (T := T) (F := F) (h := ?_); conv => whnf) | (refine Sy.sx_storeAgg (T := T) (F := F) (h := ?_); conv => whnf)); clear T F; intro ac w T F))
    ((try simp only [Exit.inBlock, Exit.then]); refine Sy.st_ret1 T F rfl (by repeat (first | exact Sy.ResV.nil | apply Sy.ResV.tmp rfl | apply Sy.ResV.row rfl rfl rfl (by repeat (first | exact Sy.Take.here | apply Sy.Take.there)) (by rfl) | apply Sy.ResV.one rfl rfl rfl (by repeat (first | exact Sy.Take.here | apply Sy.Take.there)) (by rfl))) ?_)
    exact F.retV _
  have t3 : decide (i < 0) = false := decide_eq_false hneg
  have t4 : IntKind.i64.wrap (((markS x).length : Int) - 4) = ((x.length : Nat) : Int) := by rw [Rg.i64_wrap (by omega) (by omega)]; omega
  obtain ⟨k, rfl⟩ : ∃ k : Nat, i = (k : Int) := ⟨i.toNat, by omega⟩
  by_cases hbig : x.length < k
  · have t5 : decide ((k : Int) > ((x.length : Nat) : Int)) = true := decide_eq_true (by omega)
    repeat (first
    | (((with_reducible refine Sy.is_guard ?_); (first | refine Sy.st_guard T (h := ?_) | (refine Sy.st_unguard T (h := ?_); clear T; intro ac T))))
    | (((with_reducible refine Sy.is_load ?_); (first | refine Sy.st_loadOne T F (h := ?_) | refine Sy.st_oldOne T F (h := ?_) | refine Sy.st_loadAll T F (h := ?_) | (refine Sy.st_loadCut T F (h := ?_); conv => whnf) | refine Sy.st_oldAgg T F (h := ?_) | (refine Sy.st_oldCut T F (h := ?_); conv => whnf)); clear T; intro ac T))
    | (((with_reducible refine Sy.is_store ?_); (first | refine Sy.st_storeAll T F (h := ?_) | (refine Sy.st_storeOne T F (h := ?_); conv => whnf) | (refine Sy.st_storeAgg T F (h := ?_); conv => whnf)); clear T F; intro ac w T F))
    | (((with_reducible refine Sy.is_box ?_); (first | refine Sy.st_boxAgg T F (h := ?_) | refine Sy.st_boxOne T F (h := ?_)); clear T F; intro ac g w T F))
    | (((with_reducible refine Sy.is_alloc ?_); refine Sy.st_alloc T F (h := ?_); clear T F; intro ac g w T F))
    | (((with_reducible refine Sy.is_build ?_); refine Sy.st_build T (h := ?_); (conv => whnf); (repeat (refine ⟨by first | exact rfl | exact ⟨rfl, rfl⟩, ?_⟩; (conv => whnf))); clear T; intro ac T))
    | (((with_reducible refine Sy.is_op ?_); refine Sy.st_pure T (h := ?_); clear T; intro ac T))
    | ((with_reducible refine Sy.atK (hK _ _ ?_)))
    | ((with_reducible refine Sy.is_cond ?_); (first | refine Sy.st_true T (h := ?_) | refine Sy.st_false T (h := ?_)))
    | (with_reducible refine wpList_nil ?_)
    | (with_reducible refine wp_region_lit ?_)
    | (with_reducible refine wp_block ?_)
    | (with_reducible refine wp_skip ?_)
    | (with_reducible refine wp_exit ?_)
    | (with_reducible refine wp_ret ?_)
    | ((with_reducible refine wp_seq_k ?_); intro _ _)
    | (go_at_K; go_step)
    | (simp only [Exit.then, Exit.inBlock, ↓reduceIte, Nat.reduceEqDiff])
    | ((with_reducible refine Sy.is_drawn (id := 13) ?_); refine Sy.sx_region F [] (.t 0 (.t 1 (.t 2 (.t 3 (.t 4 (.t 5 (.t 6 (.t 7 (.t 8 (.t 9 (.t 10 (.t 11 (.t 12 (.t 13 (.t 14 (.t 15 .e)))))))))))))))) [16, 17] (by kernel_rfl) ?_; (clear F; intro w F))
    | ((first | refine Sy.sx_plain (h := ?_) | refine Sy.sx_guard (T := T) (h := ?_)); (first | ((with_reducible refine Sy.ux_load ?_); (first | refine Sy.sx_val (Sy.rx_loadOne T F) T rfl ?_ | refine Sy.sx_val (Sy.rx_oldOne T F) T rfl ?_ | refine Sy.sx_val (Sy.rx_loadAll T F) T rfl ?_ | (refine Sy.sx_loadCut T F (h := ?_); conv => whnf) | refine Sy.sx_val (Sy.rx_oldAgg T F) T rfl ?_ | (refine Sy.sx_oldCut T F (h := ?_); conv => whnf)); clear T; intro ac T) | ((with_reducible refine Sy.ux_build ?_); refine Sy.sx_build T (h := ?_); (conv => whnf); (repeat (refine ⟨by first | exact rfl | exact ⟨rfl, rfl⟩, ?_⟩; (conv => whnf))); clear T; intro ac T) | (refine Sy.sx_pure T (h := ?_); clear T; intro ac T)); show Sy.wpUx _ _ _ _ _ _ _ _ _)
    | ((first | refine Sy.sx_unguard (T := T) (h := ?_) | refine Sy.sx_unguardH (T := T) (h := ?_)); clear T; intro ac T)
    | (with_reducible refine Sy.sx_fork ?_ ?_)
    | (with_reducible refine Sy.sx_nil ?_)
    | (with_reducible refine Sy.sx_end ?_)
    | (with_reducible refine Sy.sx_tail rfl rfl (fun K hK => ?_))
    | ((first | refine Sy.sx_new (T := T) (F := F) (hr := Sy.new_boxAgg T rfl) (h := ?_) | refine Sy.sx_new (T := T) (F := F) (hr := Sy.new_boxOne T rfl rfl) (h := ?_) | refine Sy.sx_new (T := T) (F := F) (hr := Sy.new_alloc rfl) (h := ?_)); clear T F; intro ac g w T F)
    | ((first | refine Sy.sx_storeAll (T := T) (F := F) (h := ?_) | (refine Sy.sx_storeOne (T := T) (F := F) (h := ?_); conv => whnf) | (refine Sy.sx_storeAgg (T := T) (F := F) (h := ?_); conv => whnf)); clear T F; intro ac w T F))
    refine Sy.st_callV0 T F (hc := awake_any _) (h := ?_); (clear T F; intro ac w T F)
    repeat (first
    | (((with_reducible refine Sy.is_guard ?_); (first | refine Sy.st_guard T (h := ?_) | (refine Sy.st_unguard T (h := ?_); clear T; intro ac T))))
    | (((with_reducible refine Sy.is_load ?_); (first | refine Sy.st_loadOne T F (h := ?_) | refine Sy.st_oldOne T F (h := ?_) | refine Sy.st_loadAll T F (h := ?_) | (refine Sy.st_loadCut T F (h := ?_); conv => whnf) | refine Sy.st_oldAgg T F (h := ?_) | (refine Sy.st_oldCut T F (h := ?_); conv => whnf)); clear T; intro ac T))
    | (((with_reducible refine Sy.is_store ?_); (first | refine Sy.st_storeAll T F (h := ?_) | (refine Sy.st_storeOne T F (h := ?_); conv => whnf) | (refine Sy.st_storeAgg T F (h := ?_); conv => whnf)); clear T F; intro ac w T F))
    | (((with_reducible refine Sy.is_box ?_); (first | refine Sy.st_boxAgg T F (h := ?_) | refine Sy.st_boxOne T F (h := ?_)); clear T F; intro ac g w T F))
    | (((with_reducible refine Sy.is_alloc ?_); refine Sy.st_alloc T F (h := ?_); clear T F; intro ac g w T F))
    | (((with_reducible refine Sy.is_build ?_); refine Sy.st_build T (h := ?_); (conv => whnf); (repeat (refine ⟨by first | exact rfl | exact ⟨rfl, rfl⟩, ?_⟩; (conv => whnf))); clear T; intro ac T))
    | (((with_reducible refine Sy.is_op ?_); refine Sy.st_pure T (h := ?_); clear T; intro ac T))
    | ((with_reducible refine Sy.atK (hK _ _ ?_)))
    | ((with_reducible refine Sy.is_cond ?_); (first | refine Sy.st_true T (h := ?_) | refine Sy.st_false T (h := ?_)))
    | (with_reducible refine wpList_nil ?_)
    | (with_reducible refine wp_region_lit ?_)
    | (with_reducible refine wp_block ?_)
    | (with_reducible refine wp_skip ?_)
    | (with_reducible refine wp_exit ?_)
    | (with_reducible refine wp_ret ?_)
    | ((with_reducible refine wp_seq_k ?_); intro _ _)
    | (go_at_K; go_step)
    | (simp only [Exit.then, Exit.inBlock, ↓reduceIte, Nat.reduceEqDiff])
    | ((with_reducible refine Sy.is_drawn (id := 13) ?_); refine Sy.sx_region F [] (.t 0 (.t 1 (.t 2 (.t 3 (.t 4 (.t 5 (.t 6 (.t 7 (.t 8 (.t 9 (.t 10 (.t 11 (.t 12 (.t 13 (.t 14 (.t 15 .e)))))))))))))))) [16, 17] (by kernel_rfl) ?_; (clear F; intro w F))
    | ((first | refine Sy.sx_plain (h := ?_) | refine Sy.sx_guard (T := T) (h := ?_)); (first | ((with_reducible refine Sy.ux_load ?_); (first | refine Sy.sx_val (Sy.rx_loadOne T F) T rfl ?_ | refine Sy.sx_val (Sy.rx_oldOne T F) T rfl ?_ | refine Sy.sx_val (Sy.rx_loadAll T F) T rfl ?_ | (refine Sy.sx_loadCut T F (h := ?_); conv => whnf) | refine Sy.sx_val (Sy.rx_oldAgg T F) T rfl ?_ | (refine Sy.sx_oldCut T F (h := ?_); conv => whnf)); clear T; intro ac T) | ((with_reducible refine Sy.ux_build ?_); refine Sy.sx_build T (h := ?_); (conv => whnf); (repeat (refine ⟨by first | exact rfl | exact ⟨rfl, rfl⟩, ?_⟩; (conv => whnf))); clear T; intro ac T) | (refine Sy.sx_pure T (h := ?_); clear T; intro ac T)); show Sy.wpUx _ _ _ _ _ _ _ _ _)
    | ((first | refine Sy.sx_unguard (T := T) (h := ?_) | refine Sy.sx_unguardH (T := T) (h := ?_)); clear T; intro ac T)
    | (with_reducible refine Sy.sx_fork ?_ ?_)
    | (with_reducible refine Sy.sx_nil ?_)
    | (with_reducible refine Sy.sx_end ?_)
    | (with_reducible refine Sy.sx_tail rfl rfl (fun K hK => ?_))
    | ((first | refine Sy.sx_new (T := T) (F := F) (hr := Sy.new_boxAgg T rfl) (h := ?_) | refine Sy.sx_new (T := T) (F := F) (hr := Sy.new_boxOne T rfl rfl) (h := ?_) | refine Sy.sx_new (T := T) (F := F) (hr := Sy.new_alloc rfl) (h := ?_)); clear T F; intro ac g w T F)
    | ((first | refine Sy.sx_storeAll (T := T) (F := F) (h := ?_) | (refine Sy.sx_storeOne (T := T) (F := F) (h := ?_); conv => whnf) | (refine Sy.sx_storeAgg (T := T) (F := F) (h := ?_); conv => whnf)); clear T F; intro ac w T F))
    ((try simp only [Exit.inBlock, Exit.then]); refine Sy.st_ret1 T F rfl (by repeat (first | exact Sy.ResV.nil | apply Sy.ResV.tmp rfl | apply Sy.ResV.row rfl rfl rfl (by repeat (first | exact Sy.Take.here | apply Sy.Take.there)) (by rfl) | apply Sy.ResV.one rfl rfl rfl (by repeat (first | exact Sy.Take.here | apply Sy.Take.there)) (by rfl))) ?_)
    exact F.retV _
  have t5 : decide ((k : Int) > ((x.length : Nat) : Int)) = false := decide_eq_false (by omega)
  repeat (first
    | (((with_reducible refine Sy.is_guard ?_); (first | refine Sy.st_guard T (h := ?_) | (refine Sy.st_unguard T (h := ?_); clear T; intro ac T))))
    | (((with_reducible refine Sy.is_load ?_); (first | refine Sy.st_loadOne T F (h := ?_) | refine Sy.st_oldOne T F (h := ?_) | refine Sy.st_loadAll T F (h := ?_) | (refine Sy.st_loadCut T F (h := ?_); conv => whnf) | refine Sy.st_oldAgg T F (h := ?_) | (refine Sy.st_oldCut T F (h := ?_); conv => whnf)); clear T; intro ac T))
    | (((with_reducible refine Sy.is_store ?_); (first | refine Sy.st_storeAll T F (h := ?_) | (refine Sy.st_storeOne T F (h := ?_); conv => whnf) | (refine Sy.st_storeAgg T F (h := ?_); conv => whnf)); clear T F; intro ac w T F))
    | (((with_reducible refine Sy.is_box ?_); (first | refine Sy.st_boxAgg T F (h := ?_) | refine Sy.st_boxOne T F (h := ?_)); clear T F; intro ac g w T F))
    | (((with_reducible refine Sy.is_alloc ?_); refine Sy.st_alloc T F (h := ?_); clear T F; intro ac g w T F))
    | (((with_reducible refine Sy.is_build ?_); refine Sy.st_build T (h := ?_); (conv => whnf); (repeat (refine ⟨by first | exact rfl | exact ⟨rfl, rfl⟩, ?_⟩; (conv => whnf))); clear T; intro ac T))
    | (((with_reducible refine Sy.is_op ?_); refine Sy.st_pure T (h := ?_); clear T; intro ac T))
    | ((with_reducible refine Sy.atK (hK _ _ ?_)))
    | ((with_reducible refine Sy.is_cond ?_); (first | refine Sy.st_true T (h := ?_) | refine Sy.st_false T (h := ?_)))
    | (with_reducible refine wpList_nil ?_)
    | (with_reducible refine wp_region_lit ?_)
    | (with_reducible refine wp_block ?_)
    | (with_reducible refine wp_skip ?_)
    | (with_reducible refine wp_exit ?_)
    | (with_reducible refine wp_ret ?_)
    | ((with_reducible refine wp_seq_k ?_); intro _ _)
    | (go_at_K; go_step)
    | (simp only [Exit.then, Exit.inBlock, ↓reduceIte, Nat.reduceEqDiff])
    | ((with_reducible refine Sy.is_drawn (id := 13) ?_); refine Sy.sx_region F [] (.t 0 (.t 1 (.t 2 (.t 3 (.t 4 (.t 5 (.t 6 (.t 7 (.t 8 (.t 9 (.t 10 (.t 11 (.t 12 (.t 13 (.t 14 (.t 15 .e)))))))))))))))) [16, 17] (by kernel_rfl) ?_; (clear F; intro w F))
    | ((first | refine Sy.sx_plain (h := ?_) | refine Sy.sx_guard (T := T) (h := ?_)); (first | ((with_reducible refine Sy.ux_load ?_); (first | refine Sy.sx_val (Sy.rx_loadOne T F) T rfl ?_ | refine Sy.sx_val (Sy.rx_oldOne T F) T rfl ?_ | refine Sy.sx_val (Sy.rx_loadAll T F) T rfl ?_ | (refine Sy.sx_loadCut T F (h := ?_); conv => whnf) | refine Sy.sx_val (Sy.rx_oldAgg T F) T rfl ?_ | (refine Sy.sx_oldCut T F (h := ?_); conv => whnf)); clear T; intro ac T) | ((with_reducible refine Sy.ux_build ?_); refine Sy.sx_build T (h := ?_); (conv => whnf); (repeat (refine ⟨by first | exact rfl | exact ⟨rfl, rfl⟩, ?_⟩; (conv => whnf))); clear T; intro ac T) | (refine Sy.sx_pure T (h := ?_); clear T; intro ac T)); show Sy.wpUx _ _ _ _ _ _ _ _ _)
    | ((first | refine Sy.sx_unguard (T := T) (h := ?_) | refine Sy.sx_unguardH (T := T) (h := ?_)); clear T; intro ac T)
    | (with_reducible refine Sy.sx_fork ?_ ?_)
    | (with_reducible refine Sy.sx_nil ?_)
    | (with_reducible refine Sy.sx_end ?_)
    | (with_reducible refine Sy.sx_tail rfl rfl (fun K hK => ?_))
    | ((first | refine Sy.sx_new (T := T) (F := F) (hr := Sy.new_boxAgg T rfl) (h := ?_) | refine Sy.sx_new (T := T) (F := F) (hr := Sy.new_boxOne T rfl rfl) (h := ?_) | refine Sy.sx_new (T := T) (F := F) (hr := Sy.new_alloc rfl) (h := ?_)); clear T F; intro ac g w T F)
    | ((first | refine Sy.sx_storeAll (T := T) (F := F) (h := ?_) | (refine Sy.sx_storeOne (T := T) (F := F) (h := ?_); conv => whnf) | (refine Sy.sx_storeAgg (T := T) (F := F) (h := ?_); conv => whnf)); clear T F; intro ac w T F))
  have hsl : ∀ j, j ≤ 4 → (sp (markS x) k v j).length = (markS x).length := fun j hj => sp_len _ _ _ _ hj (by omega)
  have h00 := sp_zero (markS x) k v (by omega)
  have h44 := sp_four (markS x) k v
  have hst := fun j hj => sp_step (markS x) k v j hj (by omega)
  have hgt := fun j (hj : j < 4) => sp_get (markS x) k v j (k + j) (by omega) (by omega) (by omega)
  refine wp_loop_ghost_k (fun n0 ac w' => ∃ j, n0 = 4 - j ∧ j ≤ 4 ∧ Sy.Tm ac 82 [(1, .int .i64 (k : Int)), (2, .int .u32 (v : Int)), (7, .slice (some ⟨g, 0, none⟩) (markS x).length cap), (9, .int .i64 (j : Int))] ∧ Sy.MemE (Sy.SlA Sy.E0 5 1 (.slice (some ⟨g, 0, none⟩) (markS x).length cap) (markS x).length ((sp (markS x) k v j).map bv)) ⟨w0, [], w0⟩ w0 [] w') 4 ?_ ?_
  · exact ⟨0, rfl, Nat.zero_le _, (T.part (by repeat (first | exact Sy.Part.nil | apply Sy.Part.cons rfl))), by rw [h00]; exact (F.sel (by repeat (first | exact Sy.Sel.nil | apply Sy.Sel.cons (by repeat (first | exact Sy.Take.here | apply Sy.Take.there)))))⟩
  clear T F
  intro n0 ac w hI J K hJ hK
  obtain ⟨j, rfl, hj, T, F⟩ := hI
  by_cases hlt : j < 4
  · have u1 : decide ((j : Int) < 4) = true := decide_eq_true (by omega)
    have u2 : IntKind.i64.wrap ((j : Int) + 1) = ((j + 1 : Nat) : Int) := by rw [Rg.i64_wrap (by omega) (by omega)]; omega
    have u3 : IntKind.i64.wrap ((k : Int) + (j : Int)) = ((k + j : Nat) : Int) := by rw [Rg.i64_wrap (by omega) (by omega)]; omega
    have u4 : IntKind.i64.wrap (8 * (j : Int)) = ((8 * j : Nat) : Int) := by rw [Rg.i64_wrap (by omega) (by omega)]; omega
    have u5 : decide (((8 * j : Nat) : Int) < 0) = false := decide_eq_false (by omega)
    have u6 : ((v : Int)).fdiv (2 ^ (min (((8 * j : Nat) : Int)).toNat IntKind.u32.bits)) = ((v / 2 ^ (8 * j) : Nat) : Int) := by
      have hm : min (((8 * j : Nat) : Int)).toNat IntKind.u32.bits = 8 * j := by
        have : IntKind.u32.bits = 32 := rfl
        omega
      rw [hm]
      rw [Int.fdiv_eq_ediv_of_nonneg _ (Int.le_of_lt (Int.pow_pos (by decide)))]
      push_cast
      rfl
    have u7 : IntKind.u8.wrap ((v / 2 ^ (8 * j) : Nat) : Int) = ((UInt8.ofNat (v / 2 ^ (8 * j))).toNat : Int) := by
      rw [UInt8.toNat_ofNat']
      simp [IntKind.wrap, IntKind.signed, IntKind.bits]
    have hd := hgt j hlt
    have hkj : k + j < (markS x).length := by omega
    have hsj := hsl j (by omega)
    have hxo := xorU (markS x)[k + j] (UInt8.ofNat (v / 2 ^ (8 * j)))
    repeat (first
    | (((with_reducible refine Sy.is_guard ?_); (first | refine Sy.st_guard T (h := ?_) | (refine Sy.st_unguard T (h := ?_); clear T; intro ac T))))
    | (((with_reducible refine Sy.is_load ?_); (first | refine Sy.st_loadOne T F (h := ?_) | refine Sy.st_oldOne T F (h := ?_) | refine Sy.st_loadAll T F (h := ?_) | (refine Sy.st_loadCut T F (h := ?_); conv => whnf) | refine Sy.st_oldAgg T F (h := ?_) | (refine Sy.st_oldCut T F (h := ?_); conv => whnf)); clear T; intro ac T))
    | (((with_reducible refine Sy.is_store ?_); (first | refine Sy.st_storeAll T F (h := ?_) | (refine Sy.st_storeOne T F (h := ?_); conv => whnf) | (refine Sy.st_storeAgg T F (h := ?_); conv => whnf)); clear T F; intro ac w T F))
    | (((with_reducible refine Sy.is_box ?_); (first | refine Sy.st_boxAgg T F (h := ?_) | refine Sy.st_boxOne T F (h := ?_)); clear T F; intro ac g w T F))
    | (((with_reducible refine Sy.is_alloc ?_); refine Sy.st_alloc T F (h := ?_); clear T F; intro ac g w T F))
    | (((with_reducible refine Sy.is_build ?_); refine Sy.st_build T (h := ?_); (conv => whnf); (repeat (refine ⟨by first | exact rfl | exact ⟨rfl, rfl⟩, ?_⟩; (conv => whnf))); clear T; intro ac T))
    | (((with_reducible refine Sy.is_op ?_); refine Sy.st_pure T (h := ?_); clear T; intro ac T))
    | ((with_reducible refine Sy.atK (hK _ _ ?_)))
    | ((with_reducible refine Sy.is_cond ?_); (first | refine Sy.st_true T (h := ?_) | refine Sy.st_false T (h := ?_)))
    | (with_reducible refine wpList_nil ?_)
    | (with_reducible refine wp_region_lit ?_)
    | (with_reducible refine wp_block ?_)
    | (with_reducible refine wp_skip ?_)
    | (with_reducible refine wp_exit ?_)
    | (with_reducible refine wp_ret ?_)
    | ((with_reducible refine wp_seq_k ?_); intro _ _)
    | (go_at_K; go_step)
    | (simp only [Exit.then, Exit.inBlock, ↓reduceIte, Nat.reduceEqDiff])
    | ((with_reducible refine Sy.is_drawn (id := 13) ?_); refine Sy.sx_region F [] (.t 0 (.t 1 (.t 2 (.t 3 (.t 4 (.t 5 (.t 6 (.t 7 (.t 8 (.t 9 (.t 10 (.t 11 (.t 12 (.t 13 (.t 14 (.t 15 .e)))))))))))))))) [16, 17] (by kernel_rfl) ?_; (clear F; intro w F))
    | ((first | refine Sy.sx_plain (h := ?_) | refine Sy.sx_guard (T := T) (h := ?_)); (first | ((with_reducible refine Sy.ux_load ?_); (first | refine Sy.sx_val (Sy.rx_loadOne T F) T rfl ?_ | refine Sy.sx_val (Sy.rx_oldOne T F) T rfl ?_ | refine Sy.sx_val (Sy.rx_loadAll T F) T rfl ?_ | (refine Sy.sx_loadCut T F (h := ?_); conv => whnf) | refine Sy.sx_val (Sy.rx_oldAgg T F) T rfl ?_ | (refine Sy.sx_oldCut T F (h := ?_); conv => whnf)); clear T; intro ac T) | ((with_reducible refine Sy.ux_build ?_); refine Sy.sx_build T (h := ?_); (conv => whnf); (repeat (refine ⟨by first | exact rfl | exact ⟨rfl, rfl⟩, ?_⟩; (conv => whnf))); clear T; intro ac T) | (refine Sy.sx_pure T (h := ?_); clear T; intro ac T)); show Sy.wpUx _ _ _ _ _ _ _ _ _)
    | ((first | refine Sy.sx_unguard (T := T) (h := ?_) | refine Sy.sx_unguardH (T := T) (h := ?_)); clear T; intro ac T)
    | (with_reducible refine Sy.sx_fork ?_ ?_)
    | (with_reducible refine Sy.sx_nil ?_)
    | (with_reducible refine Sy.sx_end ?_)
    | (with_reducible refine Sy.sx_tail rfl rfl (fun K hK => ?_))
    | ((first | refine Sy.sx_new (T := T) (F := F) (hr := Sy.new_boxAgg T rfl) (h := ?_) | refine Sy.sx_new (T := T) (F := F) (hr := Sy.new_boxOne T rfl rfl) (h := ?_) | refine Sy.sx_new (T := T) (F := F) (hr := Sy.new_alloc rfl) (h := ?_)); clear T F; intro ac g w T F)
    | ((first | refine Sy.sx_storeAll (T := T) (F := F) (h := ?_) | (refine Sy.sx_storeOne (T := T) (F := F) (h := ?_); conv => whnf) | (refine Sy.sx_storeAgg (T := T) (F := F) (h := ?_); conv => whnf)); clear T F; intro ac w T F))
    have hcc := (F.ext.2.1).cells
    have hcell : w.cell? ⟨g, 0 + (k + j) * 1, none⟩ = some (.int .u8 (((markS x)[k + j]).toNat : Int)) := by
      rcases hcc with h0 | ⟨b, o, ha, hc⟩
      · rw [List.map_eq_nil_iff] at h0
        rw [h0] at hsj
        simp at hsj
        omega
      · simp at ha
        obtain ⟨rfl, rfl⟩ := ha
        have h1 := hc (k + j) (by simpa [hsj] using hkj)
        rw [List.getElem_map] at h1
        have h2 : (sp (markS x) k v j)[k + j]'(by omega) = (markS x)[k + j] := by
          have h3 := hd
          rw [List.getElem?_eq_getElem (by omega)] at h3
          rw [if_neg (by omega)] at h3
          simpa using h3
        rw [h2] at h1
        rw [Nat.mul_one]
        exact h1
    have hcellX : ∀ w', Sy.BelowX [] w.heap.size w w' → w'.cell? ⟨g, 0 + (k + j) * 1, none⟩ = some (.int .u8 (((markS x)[k + j]).toNat : Int)) := fun w' hw' => by
      have hlt2 := World.block_lt_of_cell? w _ hcell
      rw [World.cell?_of_block (w := w) (hw'.block g hlt2 (by simp))]
      exact hcell
    refine Sy.sx_plain rfl rfl (Sy.sx_val (fun w' hw' => Sy.runs_loadOne T (by exact rfl) (by exact rfl) (by exact rfl) (hcellX w' hw')) T rfl ?_); (clear T; intro ac T); show Sy.wpUx _ _ _ _ _ _ _ _ _
    repeat (first
    | (((with_reducible refine Sy.is_guard ?_); (first | refine Sy.st_guard T (h := ?_) | (refine Sy.st_unguard T (h := ?_); clear T; intro ac T))))
    | (((with_reducible refine Sy.is_load ?_); (first | refine Sy.st_loadOne T F (h := ?_) | refine Sy.st_oldOne T F (h := ?_) | refine Sy.st_loadAll T F (h := ?_) | (refine Sy.st_loadCut T F (h := ?_); conv => whnf) | refine Sy.st_oldAgg T F (h := ?_) | (refine Sy.st_oldCut T F (h := ?_); conv => whnf)); clear T; intro ac T))
    | (((with_reducible refine Sy.is_store ?_); (first | refine Sy.st_storeAll T F (h := ?_) | (refine Sy.st_storeOne T F (h := ?_); conv => whnf) | (refine Sy.st_storeAgg T F (h := ?_); conv => whnf)); clear T F; intro ac w T F))
    | (((with_reducible refine Sy.is_box ?_); (first | refine Sy.st_boxAgg T F (h := ?_) | refine Sy.st_boxOne T F (h := ?_)); clear T F; intro ac g w T F))
    | (((with_reducible refine Sy.is_alloc ?_); refine Sy.st_alloc T F (h := ?_); clear T F; intro ac g w T F))
    | (((with_reducible refine Sy.is_build ?_); refine Sy.st_build T (h := ?_); (conv => whnf); (repeat (refine ⟨by first | exact rfl | exact ⟨rfl, rfl⟩, ?_⟩; (conv => whnf))); clear T; intro ac T))
    | (((with_reducible refine Sy.is_op ?_); refine Sy.st_pure T (h := ?_); clear T; intro ac T))
    | ((with_reducible refine Sy.atK (hK _ _ ?_)))
    | ((with_reducible refine Sy.is_cond ?_); (first | refine Sy.st_true T (h := ?_) | refine Sy.st_false T (h := ?_)))
    | (with_reducible refine wpList_nil ?_)
    | (with_reducible refine wp_region_lit ?_)
    | (with_reducible refine wp_block ?_)
    | (with_reducible refine wp_skip ?_)
    | (with_reducible refine wp_exit ?_)
    | (with_reducible refine wp_ret ?_)
    | ((with_reducible refine wp_seq_k ?_); intro _ _)
    | (go_at_K; go_step)
    | (simp only [Exit.then, Exit.inBlock, ↓reduceIte, Nat.reduceEqDiff])
    | ((with_reducible refine Sy.is_drawn (id := 13) ?_); refine Sy.sx_region F [] (.t 0 (.t 1 (.t 2 (.t 3 (.t 4 (.t 5 (.t 6 (.t 7 (.t 8 (.t 9 (.t 10 (.t 11 (.t 12 (.t 13 (.t 14 (.t 15 .e)))))))))))))))) [16, 17] (by kernel_rfl) ?_; (clear F; intro w F))
    | ((first | refine Sy.sx_plain (h := ?_) | refine Sy.sx_guard (T := T) (h := ?_)); (first | ((with_reducible refine Sy.ux_load ?_); (first | refine Sy.sx_val (Sy.rx_loadOne T F) T rfl ?_ | refine Sy.sx_val (Sy.rx_oldOne T F) T rfl ?_ | refine Sy.sx_val (Sy.rx_loadAll T F) T rfl ?_ | (refine Sy.sx_loadCut T F (h := ?_); conv => whnf) | refine Sy.sx_val (Sy.rx_oldAgg T F) T rfl ?_ | (refine Sy.sx_oldCut T F (h := ?_); conv => whnf)); clear T; intro ac T) | ((with_reducible refine Sy.ux_build ?_); refine Sy.sx_build T (h := ?_); (conv => whnf); (repeat (refine ⟨by first | exact rfl | exact ⟨rfl, rfl⟩, ?_⟩; (conv => whnf))); clear T; intro ac T) | (refine Sy.sx_pure T (h := ?_); clear T; intro ac T)); show Sy.wpUx _ _ _ _ _ _ _ _ _)
    | ((first | refine Sy.sx_unguard (T := T) (h := ?_) | refine Sy.sx_unguardH (T := T) (h := ?_)); clear T; intro ac T)
    | (with_reducible refine Sy.sx_fork ?_ ?_)
    | (with_reducible refine Sy.sx_nil ?_)
    | (with_reducible refine Sy.sx_end ?_)
    | (with_reducible refine Sy.sx_tail rfl rfl (fun K hK => ?_))
    | ((first | refine Sy.sx_new (T := T) (F := F) (hr := Sy.new_boxAgg T rfl) (h := ?_) | refine Sy.sx_new (T := T) (F := F) (hr := Sy.new_boxOne T rfl rfl) (h := ?_) | refine Sy.sx_new (T := T) (F := F) (hr := Sy.new_alloc rfl) (h := ?_)); clear T F; intro ac g w T F)
    | ((first | refine Sy.sx_storeAll (T := T) (F := F) (h := ?_) | (refine Sy.sx_storeOne (T := T) (F := F) (h := ?_); conv => whnf) | (refine Sy.sx_storeAgg (T := T) (F := F) (h := ?_); conv => whnf)); clear T F; intro ac w T F))
    refine Sy.st_storeSl (j := 0 + (k + j) * 1) T F (by omega) (h := ?_); clear T F; intro ac w T F
    have e : ((sp (markS x) k v j).map bv).set (0 + (k + j) * 1) (.int .u8 (((markS x)[k + j] ^^^ UInt8.ofNat (v / 2 ^ (8 * j))).toNat : Int)) = (sp (markS x) k v (j + 1)).map bv := by
      rw [hst j hlt, List.map_set, Nat.zero_add, Nat.mul_one]
      rfl
    rw [e] at F
    repeat (first
    | (((with_reducible refine Sy.is_guard ?_); (first | refine Sy.st_guard T (h := ?_) | (refine Sy.st_unguard T (h := ?_); clear T; intro ac T))))
    | (((with_reducible refine Sy.is_load ?_); (first | refine Sy.st_loadOne T F (h := ?_) | refine Sy.st_oldOne T F (h := ?_) | refine Sy.st_loadAll T F (h := ?_) | (refine Sy.st_loadCut T F (h := ?_); conv => whnf) | refine Sy.st_oldAgg T F (h := ?_) | (refine Sy.st_oldCut T F (h := ?_); conv => whnf)); clear T; intro ac T))
    | (((with_reducible refine Sy.is_store ?_); (first | refine Sy.st_storeAll T F (h := ?_) | (refine Sy.st_storeOne T F (h := ?_); conv => whnf) | (refine Sy.st_storeAgg T F (h := ?_); conv => whnf)); clear T F; intro ac w T F))
    | (((with_reducible refine Sy.is_box ?_); (first | refine Sy.st_boxAgg T F (h := ?_) | refine Sy.st_boxOne T F (h := ?_)); clear T F; intro ac g w T F))
    | (((with_reducible refine Sy.is_alloc ?_); refine Sy.st_alloc T F (h := ?_); clear T F; intro ac g w T F))
    | (((with_reducible refine Sy.is_build ?_); refine Sy.st_build T (h := ?_); (conv => whnf); (repeat (refine ⟨by first | exact rfl | exact ⟨rfl, rfl⟩, ?_⟩; (conv => whnf))); clear T; intro ac T))
    | (((with_reducible refine Sy.is_op ?_); refine Sy.st_pure T (h := ?_); clear T; intro ac T))
    | ((with_reducible refine Sy.atK (hK _ _ ?_)))
    | ((with_reducible refine Sy.is_cond ?_); (first | refine Sy.st_true T (h := ?_) | refine Sy.st_false T (h := ?_)))
    | (with_reducible refine wpList_nil ?_)
    | (with_reducible refine wp_region_lit ?_)
    | (with_reducible refine wp_block ?_)
    | (with_reducible refine wp_skip ?_)
    | (with_reducible refine wp_exit ?_)
    | (with_reducible refine wp_ret ?_)
    | ((with_reducible refine wp_seq_k ?_); intro _ _)
    | (go_at_K; go_step)
    | (simp only [Exit.then, Exit.inBlock, ↓reduceIte, Nat.reduceEqDiff])
    | ((with_reducible refine Sy.is_drawn (id := 13) ?_); refine Sy.sx_region F [] (.t 0 (.t 1 (.t 2 (.t 3 (.t 4 (.t 5 (.t 6 (.t 7 (.t 8 (.t 9 (.t 10 (.t 11 (.t 12 (.t 13 (.t 14 (.t 15 .e)))))))))))))))) [16, 17] (by kernel_rfl) ?_; (clear F; intro w F))
    | ((first | refine Sy.sx_plain (h := ?_) | refine Sy.sx_guard (T := T) (h := ?_)); (first | ((with_reducible refine Sy.ux_load ?_); (first | refine Sy.sx_val (Sy.rx_loadOne T F) T rfl ?_ | refine Sy.sx_val (Sy.rx_oldOne T F) T rfl ?_ | refine Sy.sx_val (Sy.rx_loadAll T F) T rfl ?_ | (refine Sy.sx_loadCut T F (h := ?_); conv => whnf) | refine Sy.sx_val (Sy.rx_oldAgg T F) T rfl ?_ | (refine Sy.sx_oldCut T F (h := ?_); conv => whnf)); clear T; intro ac T) | ((with_reducible refine Sy.ux_build ?_); refine Sy.sx_build T (h := ?_); (conv => whnf); (repeat (refine ⟨by first | exact rfl | exact ⟨rfl, rfl⟩, ?_⟩; (conv => whnf))); clear T; intro ac T) | (refine Sy.sx_pure T (h := ?_); clear T; intro ac T)); show Sy.wpUx _ _ _ _ _ _ _ _ _)
    | ((first | refine Sy.sx_unguard (T := T) (h := ?_) | refine Sy.sx_unguardH (T := T) (h := ?_)); clear T; intro ac T)
    | (with_reducible refine Sy.sx_fork ?_ ?_)
    | (with_reducible refine Sy.sx_nil ?_)
    | (with_reducible refine Sy.sx_end ?_)
    | (with_reducible refine Sy.sx_tail rfl rfl (fun K hK => ?_))
    | ((first | refine Sy.sx_new (T := T) (F := F) (hr := Sy.new_boxAgg T rfl) (h := ?_) | refine Sy.sx_new (T := T) (F := F) (hr := Sy.new_boxOne T rfl rfl) (h := ?_) | refine Sy.sx_new (T := T) (F := F) (hr := Sy.new_alloc rfl) (h := ?_)); clear T F; intro ac g w T F)
    | ((first | refine Sy.sx_storeAll (T := T) (F := F) (h := ?_) | (refine Sy.sx_storeOne (T := T) (F := F) (h := ?_); conv => whnf) | (refine Sy.sx_storeAgg (T := T) (F := F) (h := ?_); conv => whnf)); clear T F; intro ac w T F))
    exact Sy.handed hJ (k := 4 - (j + 1)) (by omega) ⟨j + 1, rfl, by omega, (T.part (by repeat (first | exact Sy.Part.nil | apply Sy.Part.cons rfl))), (F.sel (by repeat (first | exact Sy.Sel.nil | apply Sy.Sel.cons (by repeat (first | exact Sy.Take.here | apply Sy.Take.there)))))⟩
  obtain rfl : j = 4 := by omega
  have u1 : decide (((4 : Nat) : Int) < 4) = false := decide_eq_false (by omega)
  rw [h44] at F
  have hlen : (Sm.spoil (markS x) k v).length = (markS x).length := by rw [← h44]; exact hsl 4 (Nat.le_refl _)
  have hbb : ∀ w', Cells w' (some ⟨g, 0, none⟩) ((Sm.spoil (markS x) k v).map bv) → Bytes w' (some ⟨g, 0, none⟩) (Sm.spoil (markS x) k v).length (Sm.spoil (markS x) k v) := fun w' hc => ⟨rfl, by rw [hlen]; omega, hc⟩
  have hf := hfit k (by omega)
  generalize hS : Sm.spoil (markS x) k v = S at *
  repeat (first
    | (((with_reducible refine Sy.is_guard ?_); (first | refine Sy.st_guard T (h := ?_) | (refine Sy.st_unguard T (h := ?_); clear T; intro ac T))))
    | (((with_reducible refine Sy.is_load ?_); (first | refine Sy.st_loadOne T F (h := ?_) | refine Sy.st_oldOne T F (h := ?_) | refine Sy.st_loadAll T F (h := ?_) | (refine Sy.st_loadCut T F (h := ?_); conv => whnf) | refine Sy.st_oldAgg T F (h := ?_) | (refine Sy.st_oldCut T F (h := ?_); conv => whnf)); clear T; intro ac T))
    | (((with_reducible refine Sy.is_store ?_); (first | refine Sy.st_storeAll T F (h := ?_) | (refine Sy.st_storeOne T F (h := ?_); conv => whnf) | (refine Sy.st_storeAgg T F (h := ?_); conv => whnf)); clear T F; intro ac w T F))
    | (((with_reducible refine Sy.is_box ?_); (first | refine Sy.st_boxAgg T F (h := ?_) | refine Sy.st_boxOne T F (h := ?_)); clear T F; intro ac g w T F))
    | (((with_reducible refine Sy.is_alloc ?_); refine Sy.st_alloc T F (h := ?_); clear T F; intro ac g w T F))
    | (((with_reducible refine Sy.is_build ?_); refine Sy.st_build T (h := ?_); (conv => whnf); (repeat (refine ⟨by first | exact rfl | exact ⟨rfl, rfl⟩, ?_⟩; (conv => whnf))); clear T; intro ac T))
    | (((with_reducible refine Sy.is_op ?_); refine Sy.st_pure T (h := ?_); clear T; intro ac T))
    | ((with_reducible refine Sy.atK (hK _ _ ?_)))
    | ((with_reducible refine Sy.is_cond ?_); (first | refine Sy.st_true T (h := ?_) | refine Sy.st_false T (h := ?_)))
    | (with_reducible refine wpList_nil ?_)
    | (with_reducible refine wp_region_lit ?_)
    | (with_reducible refine wp_block ?_)
    | (with_reducible refine wp_skip ?_)
    | (with_reducible refine wp_exit ?_)
    | (with_reducible refine wp_ret ?_)
    | ((with_reducible refine wp_seq_k ?_); intro _ _)
    | (go_at_K; go_step)
    | (simp only [Exit.then, Exit.inBlock, ↓reduceIte, Nat.reduceEqDiff])
    | ((with_reducible refine Sy.is_drawn (id := 13) ?_); refine Sy.sx_region F [] (.t 0 (.t 1 (.t 2 (.t 3 (.t 4 (.t 5 (.t 6 (.t 7 (.t 8 (.t 9 (.t 10 (.t 11 (.t 12 (.t 13 (.t 14 (.t 15 .e)))))))))))))))) [16, 17] (by kernel_rfl) ?_; (clear F; intro w F))
    | ((first | refine Sy.sx_plain (h := ?_) | refine Sy.sx_guard (T := T) (h := ?_)); (first | ((with_reducible refine Sy.ux_load ?_); (first | refine Sy.sx_val (Sy.rx_loadOne T F) T rfl ?_ | refine Sy.sx_val (Sy.rx_oldOne T F) T rfl ?_ | refine Sy.sx_val (Sy.rx_loadAll T F) T rfl ?_ | (refine Sy.sx_loadCut T F (h := ?_); conv => whnf) | refine Sy.sx_val (Sy.rx_oldAgg T F) T rfl ?_ | (refine Sy.sx_oldCut T F (h := ?_); conv => whnf)); clear T; intro ac T) | ((with_reducible refine Sy.ux_build ?_); refine Sy.sx_build T (h := ?_); (conv => whnf); (repeat (refine ⟨by first | exact rfl | exact ⟨rfl, rfl⟩, ?_⟩; (conv => whnf))); clear T; intro ac T) | (refine Sy.sx_pure T (h := ?_); clear T; intro ac T)); show Sy.wpUx _ _ _ _ _ _ _ _ _)
    | ((first | refine Sy.sx_unguard (T := T) (h := ?_) | refine Sy.sx_unguardH (T := T) (h := ?_)); clear T; intro ac T)
    | (with_reducible refine Sy.sx_fork ?_ ?_)
    | (with_reducible refine Sy.sx_nil ?_)
    | (with_reducible refine Sy.sx_end ?_)
    | (with_reducible refine Sy.sx_tail rfl rfl (fun K hK => ?_))
    | ((first | refine Sy.sx_new (T := T) (F := F) (hr := Sy.new_boxAgg T rfl) (h := ?_) | refine Sy.sx_new (T := T) (F := F) (hr := Sy.new_boxOne T rfl rfl) (h := ?_) | refine Sy.sx_new (T := T) (F := F) (hr := Sy.new_alloc rfl) (h := ?_)); clear T F; intro ac g w T F)
    | ((first | refine Sy.sx_storeAll (T := T) (F := F) (h := ?_) | (refine Sy.sx_storeOne (T := T) (F := F) (h := ?_); conv => whnf) | (refine Sy.sx_storeAgg (T := T) (F := F) (h := ?_); conv => whnf)); clear T F; intro ac w T F))
  have G := get_sum w (some ⟨g, 0, none⟩) cap S (hbb w (F.ext.2.1).cells) (by rw [hlen]; omega) ⟨by rw [hlen]; exact hn, hmx⟩ hf
  rw [hlen] at G
  refine Sy.st_callV0 T F (hc := G) (h := ?_); (clear T F; intro ac w T F)
  clear G
  repeat (first
    | (((with_reducible refine Sy.is_guard ?_); (first | refine Sy.st_guard T (h := ?_) | (refine Sy.st_unguard T (h := ?_); clear T; intro ac T))))
    | (((with_reducible refine Sy.is_load ?_); (first | refine Sy.st_loadOne T F (h := ?_) | refine Sy.st_oldOne T F (h := ?_) | refine Sy.st_loadAll T F (h := ?_) | (refine Sy.st_loadCut T F (h := ?_); conv => whnf) | refine Sy.st_oldAgg T F (h := ?_) | (refine Sy.st_oldCut T F (h := ?_); conv => whnf)); clear T; intro ac T))
    | (((with_reducible refine Sy.is_store ?_); (first | refine Sy.st_storeAll T F (h := ?_) | (refine Sy.st_storeOne T F (h := ?_); conv => whnf) | (refine Sy.st_storeAgg T F (h := ?_); conv => whnf)); clear T F; intro ac w T F))
    | (((with_reducible refine Sy.is_box ?_); (first | refine Sy.st_boxAgg T F (h := ?_) | refine Sy.st_boxOne T F (h := ?_)); clear T F; intro ac g w T F))
    | (((with_reducible refine Sy.is_alloc ?_); refine Sy.st_alloc T F (h := ?_); clear T F; intro ac g w T F))
    | (((with_reducible refine Sy.is_build ?_); refine Sy.st_build T (h := ?_); (conv => whnf); (repeat (refine ⟨by first | exact rfl | exact ⟨rfl, rfl⟩, ?_⟩; (conv => whnf))); clear T; intro ac T))
    | (((with_reducible refine Sy.is_op ?_); refine Sy.st_pure T (h := ?_); clear T; intro ac T))
    | ((with_reducible refine Sy.atK (hK _ _ ?_)))
    | ((with_reducible refine Sy.is_cond ?_); (first | refine Sy.st_true T (h := ?_) | refine Sy.st_false T (h := ?_)))
    | (with_reducible refine wpList_nil ?_)
    | (with_reducible refine wp_region_lit ?_)
    | (with_reducible refine wp_block ?_)
    | (with_reducible refine wp_skip ?_)
    | (with_reducible refine wp_exit ?_)
    | (with_reducible refine wp_ret ?_)
    | ((with_reducible refine wp_seq_k ?_); intro _ _)
    | (go_at_K; go_step)
    | (simp only [Exit.then, Exit.inBlock, ↓reduceIte, Nat.reduceEqDiff])
    | ((with_reducible refine Sy.is_drawn (id := 13) ?_); refine Sy.sx_region F [] (.t 0 (.t 1 (.t 2 (.t 3 (.t 4 (.t 5 (.t 6 (.t 7 (.t 8 (.t 9 (.t 10 (.t 11 (.t 12 (.t 13 (.t 14 (.t 15 .e)))))))))))))))) [16, 17] (by kernel_rfl) ?_; (clear F; intro w F))
    | ((first | refine Sy.sx_plain (h := ?_) | refine Sy.sx_guard (T := T) (h := ?_)); (first | ((with_reducible refine Sy.ux_load ?_); (first | refine Sy.sx_val (Sy.rx_loadOne T F) T rfl ?_ | refine Sy.sx_val (Sy.rx_oldOne T F) T rfl ?_ | refine Sy.sx_val (Sy.rx_loadAll T F) T rfl ?_ | (refine Sy.sx_loadCut T F (h := ?_); conv => whnf) | refine Sy.sx_val (Sy.rx_oldAgg T F) T rfl ?_ | (refine Sy.sx_oldCut T F (h := ?_); conv => whnf)); clear T; intro ac T) | ((with_reducible refine Sy.ux_build ?_); refine Sy.sx_build T (h := ?_); (conv => whnf); (repeat (refine ⟨by first | exact rfl | exact ⟨rfl, rfl⟩, ?_⟩; (conv => whnf))); clear T; intro ac T) | (refine Sy.sx_pure T (h := ?_); clear T; intro ac T)); show Sy.wpUx _ _ _ _ _ _ _ _ _)
    | ((first | refine Sy.sx_unguard (T := T) (h := ?_) | refine Sy.sx_unguardH (T := T) (h := ?_)); clear T; intro ac T)
    | (with_reducible refine Sy.sx_fork ?_ ?_)
    | (with_reducible refine Sy.sx_nil ?_)
    | (with_reducible refine Sy.sx_end ?_)
    | (with_reducible refine Sy.sx_tail rfl rfl (fun K hK => ?_))
    | ((first | refine Sy.sx_new (T := T) (F := F) (hr := Sy.new_boxAgg T rfl) (h := ?_) | refine Sy.sx_new (T := T) (F := F) (hr := Sy.new_boxOne T rfl rfl) (h := ?_) | refine Sy.sx_new (T := T) (F := F) (hr := Sy.new_alloc rfl) (h := ?_)); clear T F; intro ac g w T F)
    | ((first | refine Sy.sx_storeAll (T := T) (F := F) (h := ?_) | (refine Sy.sx_storeOne (T := T) (F := F) (h := ?_); conv => whnf) | (refine Sy.sx_storeAgg (T := T) (F := F) (h := ?_); conv => whnf)); clear T F; intro ac w T F))
  have G := sameR_any w zeroMsg zeroMsg zeroRegA zeroRegA (zeroMsg_at w) (zeroMsg_at w)
  rw [decide_eq_true rfl] at G
  refine Sy.st_callV0 T F (hc := G) (h := ?_); (clear T F; intro ac w T F)
  clear G
  repeat (first
    | (((with_reducible refine Sy.is_guard ?_); (first | refine Sy.st_guard T (h := ?_) | (refine Sy.st_unguard T (h := ?_); clear T; intro ac T))))
    | (((with_reducible refine Sy.is_load ?_); (first | refine Sy.st_loadOne T F (h := ?_) | refine Sy.st_oldOne T F (h := ?_) | refine Sy.st_loadAll T F (h := ?_) | (refine Sy.st_loadCut T F (h := ?_); conv => whnf) | refine Sy.st_oldAgg T F (h := ?_) | (refine Sy.st_oldCut T F (h := ?_); conv => whnf)); clear T; intro ac T))
    | (((with_reducible refine Sy.is_store ?_); (first | refine Sy.st_storeAll T F (h := ?_) | (refine Sy.st_storeOne T F (h := ?_); conv => whnf) | (refine Sy.st_storeAgg T F (h := ?_); conv => whnf)); clear T F; intro ac w T F))
    | (((with_reducible refine Sy.is_box ?_); (first | refine Sy.st_boxAgg T F (h := ?_) | refine Sy.st_boxOne T F (h := ?_)); clear T F; intro ac g w T F))
    | (((with_reducible refine Sy.is_alloc ?_); refine Sy.st_alloc T F (h := ?_); clear T F; intro ac g w T F))
    | (((with_reducible refine Sy.is_build ?_); refine Sy.st_build T (h := ?_); (conv => whnf); (repeat (refine ⟨by first | exact rfl | exact ⟨rfl, rfl⟩, ?_⟩; (conv => whnf))); clear T; intro ac T))
    | (((with_reducible refine Sy.is_op ?_); refine Sy.st_pure T (h := ?_); clear T; intro ac T))
    | ((with_reducible refine Sy.atK (hK _ _ ?_)))
    | ((with_reducible refine Sy.is_cond ?_); (first | refine Sy.st_true T (h := ?_) | refine Sy.st_false T (h := ?_)))
    | (with_reducible refine wpList_nil ?_)
    | (with_reducible refine wp_region_lit ?_)
    | (with_reducible refine wp_block ?_)
    | (with_reducible refine wp_skip ?_)
    | (with_reducible refine wp_exit ?_)
    | (with_reducible refine wp_ret ?_)
    | ((with_reducible refine wp_seq_k ?_); intro _ _)
    | (go_at_K; go_step)
    | (simp only [Exit.then, Exit.inBlock, ↓reduceIte, Nat.reduceEqDiff])
    | ((with_reducible refine Sy.is_drawn (id := 13) ?_); refine Sy.sx_region F [] (.t 0 (.t 1 (.t 2 (.t 3 (.t 4 (.t 5 (.t 6 (.t 7 (.t 8 (.t 9 (.t 10 (.t 11 (.t 12 (.t 13 (.t 14 (.t 15 .e)))))))))))))))) [16, 17] (by kernel_rfl) ?_; (clear F; intro w F))
    | ((first | refine Sy.sx_plain (h := ?_) | refine Sy.sx_guard (T := T) (h := ?_)); (first | ((with_reducible refine Sy.ux_load ?_); (first | refine Sy.sx_val (Sy.rx_loadOne T F) T rfl ?_ | refine Sy.sx_val (Sy.rx_oldOne T F) T rfl ?_ | refine Sy.sx_val (Sy.rx_loadAll T F) T rfl ?_ | (refine Sy.sx_loadCut T F (h := ?_); conv => whnf) | refine Sy.sx_val (Sy.rx_oldAgg T F) T rfl ?_ | (refine Sy.sx_oldCut T F (h := ?_); conv => whnf)); clear T; intro ac T) | ((with_reducible refine Sy.ux_build ?_); refine Sy.sx_build T (h := ?_); (conv => whnf); (repeat (refine ⟨by first | exact rfl | exact ⟨rfl, rfl⟩, ?_⟩; (conv => whnf))); clear T; intro ac T) | (refine Sy.sx_pure T (h := ?_); clear T; intro ac T)); show Sy.wpUx _ _ _ _ _ _ _ _ _)
    | ((first | refine Sy.sx_unguard (T := T) (h := ?_) | refine Sy.sx_unguardH (T := T) (h := ?_)); clear T; intro ac T)
    | (with_reducible refine Sy.sx_fork ?_ ?_)
    | (with_reducible refine Sy.sx_nil ?_)
    | (with_reducible refine Sy.sx_end ?_)
    | (with_reducible refine Sy.sx_tail rfl rfl (fun K hK => ?_))
    | ((first | refine Sy.sx_new (T := T) (F := F) (hr := Sy.new_boxAgg T rfl) (h := ?_) | refine Sy.sx_new (T := T) (F := F) (hr := Sy.new_boxOne T rfl rfl) (h := ?_) | refine Sy.sx_new (T := T) (F := F) (hr := Sy.new_alloc rfl) (h := ?_)); clear T F; intro ac g w T F)
    | ((first | refine Sy.sx_storeAll (T := T) (F := F) (h := ?_) | (refine Sy.sx_storeOne (T := T) (F := F) (h := ?_); conv => whnf) | (refine Sy.sx_storeAgg (T := T) (F := F) (h := ?_); conv => whnf)); clear T F; intro ac w T F))
  have G := awake_any w; refine Sy.st_callV0 T F (hc := G) (h := ?_); (clear T F G; intro ac w T F)
  repeat (first
    | (((with_reducible refine Sy.is_guard ?_); (first | refine Sy.st_guard T (h := ?_) | (refine Sy.st_unguard T (h := ?_); clear T; intro ac T))))
    | (((with_reducible refine Sy.is_load ?_); (first | refine Sy.st_loadOne T F (h := ?_) | refine Sy.st_oldOne T F (h := ?_) | refine Sy.st_loadAll T F (h := ?_) | (refine Sy.st_loadCut T F (h := ?_); conv => whnf) | refine Sy.st_oldAgg T F (h := ?_) | (refine Sy.st_oldCut T F (h := ?_); conv => whnf)); clear T; intro ac T))
    | (((with_reducible refine Sy.is_store ?_); (first | refine Sy.st_storeAll T F (h := ?_) | (refine Sy.st_storeOne T F (h := ?_); conv => whnf) | (refine Sy.st_storeAgg T F (h := ?_); conv => whnf)); clear T F; intro ac w T F))
    | (((with_reducible refine Sy.is_box ?_); (first | refine Sy.st_boxAgg T F (h := ?_) | refine Sy.st_boxOne T F (h := ?_)); clear T F; intro ac g w T F))
    | (((with_reducible refine Sy.is_alloc ?_); refine Sy.st_alloc T F (h := ?_); clear T F; intro ac g w T F))
    | (((with_reducible refine Sy.is_build ?_); refine Sy.st_build T (h := ?_); (conv => whnf); (repeat (refine ⟨by first | exact rfl | exact ⟨rfl, rfl⟩, ?_⟩; (conv => whnf))); clear T; intro ac T))
    | (((with_reducible refine Sy.is_op ?_); refine Sy.st_pure T (h := ?_); clear T; intro ac T))
    | ((with_reducible refine Sy.atK (hK _ _ ?_)))
    | ((with_reducible refine Sy.is_cond ?_); (first | refine Sy.st_true T (h := ?_) | refine Sy.st_false T (h := ?_)))
    | (with_reducible refine wpList_nil ?_)
    | (with_reducible refine wp_region_lit ?_)
    | (with_reducible refine wp_block ?_)
    | (with_reducible refine wp_skip ?_)
    | (with_reducible refine wp_exit ?_)
    | (with_reducible refine wp_ret ?_)
    | ((with_reducible refine wp_seq_k ?_); intro _ _)
    | (go_at_K; go_step)
    | (simp only [Exit.then, Exit.inBlock, ↓reduceIte, Nat.reduceEqDiff])
    | ((with_reducible refine Sy.is_drawn (id := 13) ?_); refine Sy.sx_region F [] (.t 0 (.t 1 (.t 2 (.t 3 (.t 4 (.t 5 (.t 6 (.t 7 (.t 8 (.t 9 (.t 10 (.t 11 (.t 12 (.t 13 (.t 14 (.t 15 .e)))))))))))))))) [16, 17] (by kernel_rfl) ?_; (clear F; intro w F))
    | ((first | refine Sy.sx_plain (h := ?_) | refine Sy.sx_guard (T := T) (h := ?_)); (first | ((with_reducible refine Sy.ux_load ?_); (first | refine Sy.sx_val (Sy.rx_loadOne T F) T rfl ?_ | refine Sy.sx_val (Sy.rx_oldOne T F) T rfl ?_ | refine Sy.sx_val (Sy.rx_loadAll T F) T rfl ?_ | (refine Sy.sx_loadCut T F (h := ?_); conv => whnf) | refine Sy.sx_val (Sy.rx_oldAgg T F) T rfl ?_ | (refine Sy.sx_oldCut T F (h := ?_); conv => whnf)); clear T; intro ac T) | ((with_reducible refine Sy.ux_build ?_); refine Sy.sx_build T (h := ?_); (conv => whnf); (repeat (refine ⟨by first | exact rfl | exact ⟨rfl, rfl⟩, ?_⟩; (conv => whnf))); clear T; intro ac T) | (refine Sy.sx_pure T (h := ?_); clear T; intro ac T)); show Sy.wpUx _ _ _ _ _ _ _ _ _)
    | ((first | refine Sy.sx_unguard (T := T) (h := ?_) | refine Sy.sx_unguardH (T := T) (h := ?_)); clear T; intro ac T)
    | (with_reducible refine Sy.sx_fork ?_ ?_)
    | (with_reducible refine Sy.sx_nil ?_)
    | (with_reducible refine Sy.sx_end ?_)
    | (with_reducible refine Sy.sx_tail rfl rfl (fun K hK => ?_))
    | ((first | refine Sy.sx_new (T := T) (F := F) (hr := Sy.new_boxAgg T rfl) (h := ?_) | refine Sy.sx_new (T := T) (F := F) (hr := Sy.new_boxOne T rfl rfl) (h := ?_) | refine Sy.sx_new (T := T) (F := F) (hr := Sy.new_alloc rfl) (h := ?_)); clear T F; intro ac g w T F)
    | ((first | refine Sy.sx_storeAll (T := T) (F := F) (h := ?_) | (refine Sy.sx_storeOne (T := T) (F := F) (h := ?_); conv => whnf) | (refine Sy.sx_storeAgg (T := T) (F := F) (h := ?_); conv => whnf)); clear T F; intro ac w T F))
  ((try simp only [Exit.inBlock, Exit.then]); refine Sy.st_ret1 T F rfl (by repeat (first | exact Sy.ResV.nil | apply Sy.ResV.tmp rfl | apply Sy.ResV.row rfl rfl rfl (by repeat (first | exact Sy.Take.here | apply Sy.Take.there)) (by rfl) | apply Sy.ResV.one rfl rfl rfl (by repeat (first | exact Sy.Take.here | apply Sy.Take.there)) (by rfl))) ?_)
  exact F.retV _
end Ms
theorem msgSpoiltW (w : World) (m : Ms.MsgD) (p : Rg.RegA) (h : Ms.MsgAt w m p) (i : Int) (hi : -9223372036854775808 ≤ i ∧ i ≤ 9223372036854775807) (v : Int) (hv : 0 ≤ v ∧ v ≤ 4294967295) :
    Calls Try.prog 6 #[.agg (Ms.msgCs m p).toArray, .int .i64 i, .int .u32 v] w (RetBo w true) := by
  obtain ⟨n, rfl⟩ : ∃ n : Nat, v = (n : Int) := ⟨v.toNat, by omega⟩
  exact Ms.spoilt_any w m p h i hi n (by omega)
end Go.Proofs.Ytniopkoaplkpkaa
