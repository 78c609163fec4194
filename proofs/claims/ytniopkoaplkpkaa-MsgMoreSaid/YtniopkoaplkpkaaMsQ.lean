/- What msg.Put answers at any message. Conditions: the message can be read; its register's lists are short. -/
import Derived.Test.YtniopkoaplkpkaaMsN
import Derived.Test.YtniopkoaplkpkaaPutK
namespace Go.Proofs.Ytniopkoaplkpkaa
open Go.RowKit
set_option linter.unusedVariables false
set_option linter.unusedSimpArgs false
namespace Ms
open Sy (RetV RetM Sub)
open Rg (eqT eqF retBb RegD RegA RegAt regCs BytP zeroReg zeroRegA regB mayS Short U8 U64)
open Pk (numB numB_len numB_pos)
theorem may_reg {m : MsgD} (h : MayM m) : mayS m.reg = true := by
  have hz : mayS zeroReg = true := by decide
  have h6 := h.2.2.2.2.2
  split at h6
  · rw [h6.2.2.2.2]; exact hz
  split at h6
  · split at h6
    · rw [h6.2.2]; exact hz
    · exact h6.2.1
  split at h6
  · exact h6.2.2.2.1
  · rw [h6.2.2.2]; exact hz
theorem regB_len {w : World} {r : RegD} {p : RegA} (h : RegAt w r p) (hs : Short r) (hm : mayS r = true) : (regB r).length ≤ 20000 := by
  obtain ⟨s1, s2, s3, s4⟩ := hs
  have g1 := h.kind
  have g2 := h.inc
  have g3 := h.last
  unfold U8 at g1
  unfold U64 at g2 g3
  by_cases hk : r.kind = 0
  · unfold regB
    rw [if_pos hk]
    have := numB_len (n := r.kind) (by omega)
    omega
  have hok := Rg.putOk hm hk
  have o0 := hok.s0
  have o1 := hok.s1
  have a1 := numB_len (n := r.kind) (by omega)
  have a2 := numB_len g2
  have a3 := numB_len (n := r.state.toNat) (by omega)
  have a4 := numB_len (n := r.vars.length) (by omega)
  have a5 := Rg.ints_len (Rg.nums_bd h.vars)
  have a6 := numB_len (n := r.done.length) (by omega)
  have a7 := numB_len (n := r.out.length) (by omega)
  have a8 := numB_len g3
  have a9 := numB_len (n := r.marks.length) (by omega)
  have b1 := Rg.fm_len (f := Rg.doneB) (c := 200) (l := r.done) (Rg.rows_all h.done fun cs d hd hr => Rg.doneB_len hr (hok.d d hd).2.2.2.2 ⟨(hok.d d hd).1, (hok.d d hd).2.1⟩ ⟨(hok.d d hd).2.2.1, (hok.d d hd).2.2.2.1⟩)
  have b2 := Rg.fm_len (f := Rg.cellB) (c := 40) (l := r.out) (Rg.rows_all h.out fun cs d hd hr => Rg.cellB_len hr (hok.c d hd))
  have b3 := Rg.fm_len (f := Rg.markB) (c := 30) (l := r.marks) (Rg.rows_all h.marks fun cs d hd hr => Rg.markB_len hr)
  unfold regB Rg.headB
  rw [if_neg hk]
  simp only [List.length_append]
  omega
theorem puts_reg (w0 : World) (r : RegD) (p : RegA) (h : RegAt w0 r p) (hs : Short r) (hm : mayS r = true) : PutsReg w0 r p (regB r) := fun w a cap l hsb hb hl => by
  by_cases hk : r.kind = 0
  · exact Rg.put_0 w hb (by omega) r p (h.sub hsb) hs hm hk
  · exact Rg.put_k w hb hl r p (h.sub hsb) hs hm hk
/-- the bytes of a message that may be -/
theorem put_yes (w0 : World) (m : MsgD) (p : RegA) (h : MsgAt w0 m p) (hs : Short m.reg) (hm : MayM m) :
    Calls Try.prog 27 #[.agg (msgCs m p).toArray] w0 (RetPN w0 (Sm.markS (msgB m (regB m.reg)))) := by
  refine putMsgN w0 m p h (fun w hsb => ?_) _ (by have := regB_len h.reg hs (may_reg hm); omega) (puts_reg w0 m.reg p h.reg hs (may_reg hm))
  have G := may_any w m p (h.sub hsb) hs
  rw [decide_eq_true hm] at G
  exact G
theorem put_no (w0 : World) (m : MsgD) (p : RegA) (h : MsgAt w0 m p) (hs : Short m.reg) (hm : ¬ MayM m) :
    Calls Try.prog 27 #[.agg (msgCs m p).toArray] w0 (RetV w0 (.tuple #[.slice none 0 0, .int .i64 3])) := by
  refine putNot w0 m p h (fun w hsb => ?_)
  have G := may_any w m p (h.sub hsb) hs
  rw [decide_eq_false hm] at G
  exact G
theorem msgB_pos (m : MsgD) (R : List UInt8) : 5 ≤ (msgB m R).length := by
  have h1 := numB_pos (nth5 m 0)
  have h2 := numB_pos (nth5 m 1)
  have h3 := numB_pos (nth5 m 2)
  have h4 := numB_pos (nth5 m 3)
  have h5 := numB_pos (nth5 m 4)
  unfold msgB preM preM preM preM preM preM
  simp only [List.length_append, List.length_nil]
  omega
set_option maxRecDepth 20000 in
/-- bytes whose sum is wrong -/
theorem get_sum (w0 : World) (a : Option Addr) (cap : Nat) (l : List UInt8) (hb : Bytes w0 a l.length l) (hsmall : l.length ≤ 70368744177664) (hcap : l.length ≤ cap ∧ cap ≤ maxLen) (hf : Sm.fitsS l = ([], 5)) :
    Calls Try.prog 28 #[.slice a l.length cap] w0 (RetV w0 (.tuple #[.agg (msgCs zeroMsg zeroRegA).toArray, .int .i64 5])) := by
  have F := Sy.Mem.start (Sub.refl w0)
  have e5 : ((5 : Int) == 0) = false := rfl
  refine Sy.enter Try.func28 rfl Try.ntmps28 rfl ?_; intro ac T; simp only [Sy.enum, Nat.zero_add, Nat.reduceAdd] at T
  repeat (first
    | (((with_reducible refine Sy.is_load ?_); (first | refine Sy.st_loadOne T F (h := ?_) | refine Sy.st_oldOne T F (h := ?_) | refine Sy.st_loadAll T F (h := ?_) | (refine Sy.st_loadCut T F (h := ?_); conv => whnf) | refine Sy.st_oldAgg T F (h := ?_) | (refine Sy.st_oldCut T F (h := ?_); conv => whnf)); clear T; intro ac T))
    | (((with_reducible refine Sy.is_store ?_); (first | refine Sy.st_storeAll T F (h := ?_) | (refine Sy.st_storeOne T F (h := ?_); conv => whnf) | (refine Sy.st_storeAgg T F (h := ?_); conv => whnf)); clear T F; intro ac w T F))
    | (((with_reducible refine Sy.is_alloc ?_); refine Sy.st_alloc T F (h := ?_); clear T F; intro ac g w T F))
    | (((with_reducible refine Sy.is_build ?_); refine Sy.st_build T (h := ?_); (conv => whnf); (repeat (refine ⟨by first | exact rfl | exact ⟨rfl, rfl⟩, ?_⟩; (conv => whnf))); clear T; intro ac T))
    | (((with_reducible refine Sy.is_op ?_); refine Sy.st_pure T (h := ?_); clear T; intro ac T))
    | ((with_reducible refine Sy.atK (hK _ _ ?_)))
    | ((with_reducible refine Sy.is_cond ?_); (first | refine Sy.st_true T (h := ?_) | refine Sy.st_false T (h := ?_)))
    | (with_reducible refine wpList_nil ?_)
    | (with_reducible refine wp_region_lit ?_)
    | (with_reducible refine wp_block ?_)
    | (with_reducible refine wp_skip ?_)
    | (with_reducible refine wp_exit ?_)
    | (with_reducible refine wp_ret ?_)
    | ((with_reducible refine wp_seq_k ?_); intro _ _)
    | (go_at_K; go_step)
    | (simp only [Exit.then, Exit.inBlock, ↓reduceIte, Nat.reduceEqDiff]))
  have G := Sm.fits_any a l.length cap l w (hb.sub F.sub) hsmall hcap
  rw [hf] at G
  refine Sy.st_call (us := []) (ks := []) T rfl rfl rfl rfl G ?_
  rintro e w1 ⟨a1, m1, c1, rfl, hb1, bel⟩
  refine ⟨_, rfl, fun ac' T' => ?_⟩
  have F1 := F.below bel
  clear F T bel G
  have F := F1
  have T := T'
  clear F1 T'
  repeat (first
    | (((with_reducible refine Sy.is_load ?_); (first | refine Sy.st_loadOne T F (h := ?_) | refine Sy.st_oldOne T F (h := ?_) | refine Sy.st_loadAll T F (h := ?_) | (refine Sy.st_loadCut T F (h := ?_); conv => whnf) | refine Sy.st_oldAgg T F (h := ?_) | (refine Sy.st_oldCut T F (h := ?_); conv => whnf)); clear T; intro ac T))
    | (((with_reducible refine Sy.is_store ?_); (first | refine Sy.st_storeAll T F (h := ?_) | (refine Sy.st_storeOne T F (h := ?_); conv => whnf) | (refine Sy.st_storeAgg T F (h := ?_); conv => whnf)); clear T F; intro ac w T F))
    | (((with_reducible refine Sy.is_alloc ?_); refine Sy.st_alloc T F (h := ?_); clear T F; intro ac g w T F))
    | (((with_reducible refine Sy.is_build ?_); refine Sy.st_build T (h := ?_); (conv => whnf); (repeat (refine ⟨by first | exact rfl | exact ⟨rfl, rfl⟩, ?_⟩; (conv => whnf))); clear T; intro ac T))
    | (((with_reducible refine Sy.is_op ?_); refine Sy.st_pure T (h := ?_); clear T; intro ac T))
    | ((with_reducible refine Sy.atK (hK _ _ ?_)))
    | ((with_reducible refine Sy.is_cond ?_); (first | refine Sy.st_true T (h := ?_) | refine Sy.st_false T (h := ?_)))
    | (with_reducible refine wpList_nil ?_)
    | (with_reducible refine wp_region_lit ?_)
    | (with_reducible refine wp_block ?_)
    | (with_reducible refine wp_skip ?_)
    | (with_reducible refine wp_exit ?_)
    | (with_reducible refine wp_ret ?_)
    | ((with_reducible refine wp_seq_k ?_); intro _ _)
    | (go_at_K; go_step)
    | (simp only [Exit.then, Exit.inBlock, ↓reduceIte, Nat.reduceEqDiff]))
  ((try simp only [Exit.inBlock, Exit.then]); refine Sy.st_ret2 T F rfl (by repeat (first | exact Sy.ResV.nil | apply Sy.ResV.tmp rfl | apply Sy.ResV.row rfl rfl rfl (by repeat (first | exact Sy.Take.here | apply Sy.Take.there)) (by rfl) | apply Sy.ResV.one rfl rfl rfl (by repeat (first | exact Sy.Take.here | apply Sy.Take.there)) (by rfl))) ?_)
  exact F.retV _
end Ms
end Go.Proofs.Ytniopkoaplkpkaa
