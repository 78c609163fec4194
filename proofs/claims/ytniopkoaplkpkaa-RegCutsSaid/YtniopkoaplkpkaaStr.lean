/- Bytes made strings, and strings compared, in the walk; the example of the document. No condition. -/
import Derived.Test.YtniopkoaplkpkaaSeat
import Derived.Test.YtniopkoaplkpkaaPut
import Derived.Test.YtniopkoaplkpkaaStrS
namespace Go.Proofs.Ytniopkoaplkpkaa
open Go.RowKit
set_option linter.unusedVariables false
set_option linter.unusedSimpArgs false
namespace Rg
open Sy (RetV RetM Sub)
/-- bytes and a number come back, the bytes in new memory -/
def RetY (w : World) (l : List UInt8) (n : Int) (e : Ending) (w' : World) : Prop := ∃ u, e = .returned (.tuple #[u, .int .i64 n]) ∧ Below w.heap.size w w' ∧ BytF w.heap.size l w' u
theorem retY {w : World} {l : List UInt8} {n : Int} {e : Ending} {w' : World} (h : RetM w w (BytP w.heap.size l n) e w') : RetY w l n e w' := by
  obtain ⟨v, m', rfl, h1, h2, h3, h4, u, rfl, h5⟩ := h
  exact ⟨u, rfl, h1, h5.sub h3⟩
theorem retM_Y {m w : World} (hs : Sub m w) {l : List UInt8} {n : Int} {e : Ending} {w' : World} (h : RetY w l n e w') : RetM m w (BytP w.heap.size l n) e w' := by
  obtain ⟨u, rfl, h1, h2⟩ := h
  obtain ⟨v, m', he, hb, k1, k2, k3, k4⟩ := retM_F hs ⟨u, rfl, h1, h2⟩
  cases he
  exact ⟨_, m', rfl, hb, k1, k2, k3, u, rfl, k4⟩
set_option maxRecDepth 20000 in
theorem awake06_any (W0 : World) : Calls Try.prog 18 #[] W0 (RetV W0 (.bool true)) := by
  have F := Sy.Mem.start (Sub.refl W0)
  have G := fun w' (hs' : Sub W0 w') => put_0 w' (a := none) (cap := 0) (l := []) (Bytes.nil _ _) (by simp) zeroReg zeroRegA (zeroReg_at w') (short_of (by rfl)) (by rfl) rfl
  refine Sy.enter Try.func18 rfl Try.ntmps18 rfl ?_; intro ac T; simp only [Sy.enum, Nat.zero_add, Nat.reduceAdd] at T
  repeat (first
    | (((with_reducible refine Sy.is_guard ?_); (first | refine Sy.st_guard T (h := ?_) | (refine Sy.st_unguard T (h := ?_); clear T; intro ac T))))
    | (((with_reducible refine Sy.is_build ?_); refine Sy.st_build T (h := ?_); (conv => whnf); (repeat (refine ⟨by first | exact rfl | exact ⟨rfl, rfl⟩, ?_⟩; (conv => whnf))); clear T; intro ac T))
    | (((with_reducible refine Sy.is_op ?_); refine Sy.st_pure T (h := ?_); clear T; intro ac T))
    | ((with_reducible refine Sy.atK (hK _ _ ?_)))
    | ((with_reducible refine Sy.is_cond ?_); (first | refine Sy.st_true T (h := ?_) | refine Sy.st_false T (h := ?_)))
    | (with_reducible refine wpList_nil ?_)
    | (with_reducible refine wp_region_lit ?_)
    | (with_reducible refine wp_block ?_)
    | (with_reducible refine wp_skip ?_)
    | (with_reducible refine wp_exit ?_)
    | (with_reducible refine wp_ret ?_)
    | ((with_reducible refine wp_seq_k ?_); intro _ _)
    | (go_at_K; go_step)
    | (simp only [Exit.then, Exit.inBlock, ↓reduceIte, Nat.reduceEqDiff]))
  refine Sy.st_callM0 T F (ha := rfl) (hc := (G _ F.sub).mono fun e w' h => retM_Y F.sub (retY h)) (h := ?_); (clear T F; intro v m ac w hR hS T F)
  obtain ⟨u, rfl, a1, cap1, rfl, hB, -⟩ := hR
  repeat (first
    | (((with_reducible refine Sy.is_guard ?_); (first | refine Sy.st_guard T (h := ?_) | (refine Sy.st_unguard T (h := ?_); clear T; intro ac T))))
    | (((with_reducible refine Sy.is_build ?_); refine Sy.st_build T (h := ?_); (conv => whnf); (repeat (refine ⟨by first | exact rfl | exact ⟨rfl, rfl⟩, ?_⟩; (conv => whnf))); clear T; intro ac T))
    | (((with_reducible refine Sy.is_op ?_); refine Sy.st_pure T (h := ?_); clear T; intro ac T))
    | ((with_reducible refine Sy.atK (hK _ _ ?_)))
    | ((with_reducible refine Sy.is_cond ?_); (first | refine Sy.st_true T (h := ?_) | refine Sy.st_false T (h := ?_)))
    | (with_reducible refine wpList_nil ?_)
    | (with_reducible refine wp_region_lit ?_)
    | (with_reducible refine wp_block ?_)
    | (with_reducible refine wp_skip ?_)
    | (with_reducible refine wp_exit ?_)
    | (with_reducible refine wp_ret ?_)
    | ((with_reducible refine wp_seq_k ?_); intro _ _)
    | (go_at_K; go_step)
    | (simp only [Exit.then, Exit.inBlock, ↓reduceIte, Nat.reduceEqDiff]))
  refine Sy.st_str T (hB.sub F.sub) (h := ?_); intro ac T
  refine Sy.st_strEq T (h := ?_); intro ac T
  have e : (ByteArray.toList ⟨([] ++ regB zeroReg).toArray⟩ == ByteArray.toList (ByteArray.mk #[0])) = true := by
    have e0 : [] ++ regB zeroReg = [0] := by have k0 : zeroReg.kind = 0 := rfl; unfold regB; rw [if_pos k0]; exact Pk.numB_lo (by decide)
    rw [e0]
    exact beq_self_eq_true _
  rw [e] at T
  repeat (first
    | (((with_reducible refine Sy.is_guard ?_); (first | refine Sy.st_guard T (h := ?_) | (refine Sy.st_unguard T (h := ?_); clear T; intro ac T))))
    | (((with_reducible refine Sy.is_build ?_); refine Sy.st_build T (h := ?_); (conv => whnf); (repeat (refine ⟨by first | exact rfl | exact ⟨rfl, rfl⟩, ?_⟩; (conv => whnf))); clear T; intro ac T))
    | (((with_reducible refine Sy.is_op ?_); refine Sy.st_pure T (h := ?_); clear T; intro ac T))
    | ((with_reducible refine Sy.atK (hK _ _ ?_)))
    | ((with_reducible refine Sy.is_cond ?_); (first | refine Sy.st_true T (h := ?_) | refine Sy.st_false T (h := ?_)))
    | (with_reducible refine wpList_nil ?_)
    | (with_reducible refine wp_region_lit ?_)
    | (with_reducible refine wp_block ?_)
    | (with_reducible refine wp_skip ?_)
    | (with_reducible refine wp_exit ?_)
    | (with_reducible refine wp_ret ?_)
    | ((with_reducible refine wp_seq_k ?_); intro _ _)
    | (go_at_K; go_step)
    | (simp only [Exit.then, Exit.inBlock, ↓reduceIte, Nat.reduceEqDiff]))
  ((try simp only [Exit.inBlock, Exit.then]); refine Sy.st_ret1 T F rfl (by repeat (first | exact Sy.ResV.nil | apply Sy.ResV.tmp rfl | apply Sy.ResV.row rfl rfl rfl (by repeat (first | exact Sy.Take.here | apply Sy.Take.there)) (by rfl) | apply Sy.ResV.one rfl rfl rfl (by repeat (first | exact Sy.Take.here | apply Sy.Take.there)) (by rfl))) ?_)
  exact F.retV _
end Rg
end Go.Proofs.Ytniopkoaplkpkaa
