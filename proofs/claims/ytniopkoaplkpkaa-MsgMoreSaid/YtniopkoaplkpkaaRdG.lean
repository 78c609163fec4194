/- The walk of reg.Get. Conditions: the reader's bytes can be read; the lists taken are short. Printed by a program (genget.py). -/
import Derived.Test.YtniopkoaplkpkaaRdC
namespace Go.Proofs.Ytniopkoaplkpkaa
open Go.RowKit
set_option linter.unusedVariables false
set_option linter.unusedSimpArgs false
namespace Rt
open Sy (RetV RetM Sub)
open Rg Pk
set_option maxRecDepth 20000 in
set_option maxHeartbeats 4000000 in
theorem get_r {m0 W : World} {gr : Nat} {s : St} {cs : List Value} (h : RdX m0 W gr s cs) (hsh : Short (rawS s).1) :
    Calls Try.prog 21 #[.pointer (some ⟨gr, 0, none⟩)] W (RetR m0 W gr (RowV RegR) (getS s)) := by
  have F := h.F
  have hC := h.c
  clear h
  obtain ⟨⟨k, s1⟩, e1⟩ : ∃ x, x = smallS s := ⟨_, rfl⟩
  by_cases hk : k = 0
  · subst hk
    have hR : rawS s = (⟨0, 0, 0, [], [], [], 0, []⟩, s1) := by simp only [rawS, bindS, ← e1]; rfl
    have hD : getS s = checkS ⟨0, 0, 0, [], [], [], 0, []⟩ s1 := by unfold getS bindS; rw [hR]
    rw [hR] at hsh
    rw [hD]
    clear hD hR
    have hA : ∀ m, RegAt m ⟨0, 0, 0, [], [], [], 0, []⟩ zeroRegA := fun m => zeroReg_at m
    have u0 : ((((0 : Nat) : Int)) != 0) = false := rfl
    have hm : mayS ⟨0, 0, 0, [], [], [], 0, []⟩ = true := rfl
    refine Sy.enter Try.func21 rfl Try.ntmps21 rfl ?_; intro ac T; simp only [Sy.enum, Nat.zero_add, Nat.reduceAdd] at T
    repeat (first
    | (((with_reducible refine Sy.is_load ?_); (refine Sy.st_loadAll T F (h := ?_)); clear T; intro ac T))
    | (((with_reducible refine Sy.is_store ?_); (refine Sy.st_storeAll T F (h := ?_)); clear T F; intro ac w T F))
    | (((with_reducible refine Sy.is_alloc ?_); refine Sy.st_alloc T F (h := ?_); clear T F; intro ac g w T F))
    | (((with_reducible refine Sy.is_build ?_); refine Sy.st_build T (h := ?_); (conv => whnf); (repeat (refine ⟨by first | exact rfl | exact ⟨rfl, rfl⟩, ?_⟩; (conv => whnf))); clear T; intro ac T))
    | (((with_reducible refine Sy.is_op ?_); refine Sy.st_pure T (h := ?_); clear T; intro ac T))
    | (with_reducible refine wpList_nil ?_)
    | (with_reducible refine wp_region_lit ?_)
    | ((with_reducible refine wp_seq_k ?_); intro _ _)
    | (go_at_K; go_step)
    | (simp only [Exit.then, Exit.inBlock, ↓reduceIte, Nat.reduceEqDiff]))
    have G := small_r (Pk.RdX.mk (Sy.MemE.reX F (by repeat (first | exact Sy.Take.here | apply Sy.Take.there))) hC); rw [← e1] at G; refine Sy.st_callX T F (hc := G) (h := ?_); (clear T F G hC; intro v m cs ac w hR hS T F; obtain ⟨hV, hC⟩ := hR; dsimp only at hV hC)
    obtain ⟨rfl, hb1⟩ := hV
    repeat (first
    | (((with_reducible refine Sy.is_load ?_); (first
    | refine Sy.st_loadOne T F (h := ?_)
    | refine Sy.st_loadAll T F (h := ?_)); clear T; intro ac T))
    | (((with_reducible refine Sy.is_store ?_); (refine Sy.st_storeAll T F (h := ?_)); clear T F; intro ac w T F))
    | (((with_reducible refine Sy.is_alloc ?_); refine Sy.st_alloc T F (h := ?_); clear T F; intro ac g w T F))
    | (((with_reducible refine Sy.is_build ?_); refine Sy.st_build T (h := ?_); (conv => whnf); (repeat (refine ⟨by first | exact rfl | exact ⟨rfl, rfl⟩, ?_⟩; (conv => whnf))); clear T; intro ac T))
    | (((with_reducible refine Sy.is_op ?_); refine Sy.st_pure T (h := ?_); clear T; intro ac T))
    | ((with_reducible refine Sy.is_cond ?_); (refine Sy.st_false T (h := ?_)))
    | (with_reducible refine wpList_nil ?_)
    | (with_reducible refine wp_region_lit ?_)
    | (with_reducible refine wp_skip ?_)
    | ((with_reducible refine wp_seq_k ?_); intro _ _)
    | (go_at_K; go_step)
    | (simp only [Exit.then, Exit.inBlock, ↓reduceIte, Nat.reduceEqDiff]))
    replace hA := hA m
    skip
    refine Sy.st_callV0 T F (hc := may_any w ⟨0, 0, 0, [], [], [], 0, []⟩ zeroRegA (hA.sub F.sub) hsh) (h := ?_); (clear T F; intro ac w T F)
    rw [hm] at T
    cases hw : wellS s1 with
    | true =>
      have hE : checkS ⟨0, 0, 0, [], [], [], 0, []⟩ s1 = (⟨0, 0, 0, [], [], [], 0, []⟩, s1) := by simp [checkS, hm, hw]
      have G := fun w' (hs : Below w.heap.size w w') => well_r (RdX.mk (Sy.MemE.reX (F.below hs) (by repeat (first | exact Sy.Take.here | apply Sy.Take.there))) hC)
      rw [hw] at G
      repeat (first
    | (((with_reducible refine Sy.is_load ?_); (refine Sy.st_loadAll T F (h := ?_)); clear T; intro ac T))
    | (((with_reducible refine Sy.is_op ?_); refine Sy.st_pure T (h := ?_); clear T; intro ac T))
    | ((with_reducible refine Sy.is_cond ?_); (refine Sy.st_false T (h := ?_)))
    | (with_reducible refine wpList_nil ?_)
    | (with_reducible refine wp_region_lit ?_)
    | (with_reducible refine wp_skip ?_)
    | ((with_reducible refine wp_seq_k ?_); intro _ _)
    | (go_at_K; go_step)
    | (simp only [Exit.then, Exit.inBlock, ↓reduceIte, Nat.reduceEqDiff]))
      refine Sy.st_callV0 T F (hc := G _ (Below.refl _ _)) (h := ?_); (clear T F; intro ac w T F)
      clear G
      repeat (first
    | (((with_reducible refine Sy.is_load ?_); (refine Sy.st_loadAll T F (h := ?_)); clear T; intro ac T))
    | (((with_reducible refine Sy.is_store ?_); (refine Sy.st_storeAll T F (h := ?_)); clear T F; intro ac w T F))
    | (((with_reducible refine Sy.is_op ?_); refine Sy.st_pure T (h := ?_); clear T; intro ac T))
    | ((with_reducible refine Sy.is_cond ?_); (refine Sy.st_false T (h := ?_)))
    | (with_reducible refine wpList_nil ?_)
    | (with_reducible refine wp_region_lit ?_)
    | (with_reducible refine wp_skip ?_)
    | (with_reducible refine wp_ret ?_)
    | ((with_reducible refine wp_seq_k ?_); intro _ _)
    | (go_at_K; go_step)
    | (simp only [Exit.then, Exit.inBlock, ↓reduceIte, Nat.reduceEqDiff]))
      ((try simp only [Exit.inBlock, Exit.then]); refine Sy.st_ret1 T F rfl (by repeat (first | exact Sy.ResV.nil | apply Sy.ResV.tmp rfl | apply Sy.ResV.row rfl rfl rfl (by repeat (first | exact Sy.Take.here | apply Sy.Take.there)) (by rfl) | apply Sy.ResV.one rfl rfl rfl (by repeat (first | exact Sy.Take.here | apply Sy.Take.there)) (by rfl))) ?_)
      rw [hE]
      exact F.retX (by repeat (first | exact Sy.Take.here | apply Sy.Take.there)) ⟨⟨_, rfl, zeroRegA, rfl, hA⟩, hC⟩
    | false =>
      have hE : checkS ⟨0, 0, 0, [], [], [], 0, []⟩ s1 = (zeroReg, s1) := by simp [checkS, hm, hw]
      have G := fun w' (hs : Below w.heap.size w w') => well_r (RdX.mk (Sy.MemE.reX (F.below hs) (by repeat (first | exact Sy.Take.here | apply Sy.Take.there))) hC)
      rw [hw] at G
      repeat (first
    | (((with_reducible refine Sy.is_load ?_); (refine Sy.st_loadAll T F (h := ?_)); clear T; intro ac T))
    | (((with_reducible refine Sy.is_op ?_); refine Sy.st_pure T (h := ?_); clear T; intro ac T))
    | ((with_reducible refine Sy.is_cond ?_); (refine Sy.st_false T (h := ?_)))
    | (with_reducible refine wpList_nil ?_)
    | (with_reducible refine wp_region_lit ?_)
    | (with_reducible refine wp_skip ?_)
    | ((with_reducible refine wp_seq_k ?_); intro _ _)
    | (go_at_K; go_step)
    | (simp only [Exit.then, Exit.inBlock, ↓reduceIte, Nat.reduceEqDiff]))
      refine Sy.st_callV0 T F (hc := G _ (Below.refl _ _)) (h := ?_); (clear T F; intro ac w T F)
      clear G
      repeat (first
    | (((with_reducible refine Sy.is_store ?_); (refine Sy.st_storeAll T F (h := ?_)); clear T F; intro ac w T F))
    | (((with_reducible refine Sy.is_build ?_); refine Sy.st_build T (h := ?_); (conv => whnf); (repeat (refine ⟨by first | exact rfl | exact ⟨rfl, rfl⟩, ?_⟩; (conv => whnf))); clear T; intro ac T))
    | (((with_reducible refine Sy.is_op ?_); refine Sy.st_pure T (h := ?_); clear T; intro ac T))
    | ((with_reducible refine Sy.is_cond ?_); (refine Sy.st_true T (h := ?_)))
    | (with_reducible refine wpList_nil ?_)
    | (with_reducible refine wp_region_lit ?_)
    | (with_reducible refine wp_ret ?_)
    | ((with_reducible refine wp_seq_k ?_); intro _ _)
    | (go_at_K; go_step)
    | (simp only [Exit.then, Exit.inBlock, ↓reduceIte, Nat.reduceEqDiff]))
      ((try simp only [Exit.inBlock, Exit.then]); refine Sy.st_ret1 T F rfl (by repeat (first | exact Sy.ResV.nil | apply Sy.ResV.tmp rfl | apply Sy.ResV.row rfl rfl rfl (by repeat (first | exact Sy.Take.here | apply Sy.Take.there)) (by rfl) | apply Sy.ResV.one rfl rfl rfl (by repeat (first | exact Sy.Take.here | apply Sy.Take.there)) (by rfl))) ?_)
      rw [hE]
      exact F.retX (by repeat (first | exact Sy.Take.here | apply Sy.Take.there)) ⟨⟨_, rfl, zeroRegA, rfl, zeroReg_at _⟩, hC⟩
  obtain ⟨⟨i, s2⟩, e2⟩ : ∃ x, x = bigS s1 := ⟨_, rfl⟩
  obtain ⟨⟨t, s3⟩, e3⟩ : ∃ x, x = smlS s2 := ⟨_, rfl⟩
  obtain ⟨⟨l, s4⟩, e4⟩ : ∃ x, x = listS intS s3 := ⟨_, rfl⟩
  obtain ⟨⟨d, s5⟩, e5⟩ : ∃ x, x = listS doneS s4 := ⟨_, rfl⟩
  obtain ⟨⟨o, s6⟩, e6⟩ : ∃ x, x = listS cellS s5 := ⟨_, rfl⟩
  obtain ⟨⟨la, s7⟩, e7⟩ : ∃ x, x = bigS s6 := ⟨_, rfl⟩
  obtain ⟨⟨q, s8⟩, e8⟩ : ∃ x, x = listS markS s7 := ⟨_, rfl⟩
  have hR : rawS s = (⟨k, i, t, l, d, o, la, q⟩, s8) := by simp only [rawS, bindS, ← e1, hk, if_false, bodyS, ← e2, ← e3, ← e4, ← e5, ← e6, ← e7, ← e8]; rfl
  have hD : getS s = checkS ⟨k, i, t, l, d, o, la, q⟩ s8 := by unfold getS bindS; rw [hR]
  rw [hR] at hsh
  rw [hD]
  clear hD hR
  have u0 : (((k : Nat) : Int) == 0) = false := eqF (by omega)
  refine Sy.enter Try.func21 rfl Try.ntmps21 rfl ?_; intro ac T; simp only [Sy.enum, Nat.zero_add, Nat.reduceAdd] at T
  repeat (first
    | (((with_reducible refine Sy.is_load ?_); (refine Sy.st_loadAll T F (h := ?_)); clear T; intro ac T))
    | (((with_reducible refine Sy.is_store ?_); (refine Sy.st_storeAll T F (h := ?_)); clear T F; intro ac w T F))
    | (((with_reducible refine Sy.is_alloc ?_); refine Sy.st_alloc T F (h := ?_); clear T F; intro ac g w T F))
    | (((with_reducible refine Sy.is_build ?_); refine Sy.st_build T (h := ?_); (conv => whnf); (repeat (refine ⟨by first | exact rfl | exact ⟨rfl, rfl⟩, ?_⟩; (conv => whnf))); clear T; intro ac T))
    | (((with_reducible refine Sy.is_op ?_); refine Sy.st_pure T (h := ?_); clear T; intro ac T))
    | (with_reducible refine wpList_nil ?_)
    | (with_reducible refine wp_region_lit ?_)
    | ((with_reducible refine wp_seq_k ?_); intro _ _)
    | (go_at_K; go_step)
    | (simp only [Exit.then, Exit.inBlock, ↓reduceIte, Nat.reduceEqDiff]))
  have G := small_r (Pk.RdX.mk (Sy.MemE.reX F (by repeat (first | exact Sy.Take.here | apply Sy.Take.there))) hC); rw [← e1] at G; refine Sy.st_callX T F (hc := G) (h := ?_); (clear T F G hC; intro v m cs ac w hR hS T F; obtain ⟨hV, hC⟩ := hR; dsimp only at hV hC)
  obtain ⟨rfl, hb1⟩ := hV
  repeat (first
    | (((with_reducible refine Sy.is_load ?_); (refine Sy.st_loadOne T F (h := ?_)); clear T; intro ac T))
    | (((with_reducible refine Sy.is_store ?_); (refine Sy.st_storeAll T F (h := ?_)); clear T F; intro ac w T F))
    | (((with_reducible refine Sy.is_alloc ?_); refine Sy.st_alloc T F (h := ?_); clear T F; intro ac g w T F))
    | (((with_reducible refine Sy.is_build ?_); refine Sy.st_build T (h := ?_); (conv => whnf); (repeat (refine ⟨by first | exact rfl | exact ⟨rfl, rfl⟩, ?_⟩; (conv => whnf))); clear T; intro ac T))
    | (((with_reducible refine Sy.is_op ?_); refine Sy.st_pure T (h := ?_); clear T; intro ac T))
    | ((with_reducible refine Sy.is_cond ?_); (refine Sy.st_true T (h := ?_)))
    | (with_reducible refine wpList_nil ?_)
    | (with_reducible refine wp_region_lit ?_)
    | ((with_reducible refine wp_seq_k ?_); intro _ _)
    | (go_at_K; go_step)
    | (simp only [Exit.then, Exit.inBlock, ↓reduceIte, Nat.reduceEqDiff]))
  obtain ⟨g4, hg4⟩ := name1 T 4 rfl
  subst hg4
  refine Sy.sx_region F [g4, gr] (.t 0 (.t 2 (.h 1 (.t 4 (.h 3 (.h 5 .e)))))) [6, 7] (by kernel_rfl) ?_; (clear F; intro w F)
  repeat (((refine Sy.sx_plain (h := ?_)); (((with_reducible refine Sy.ux_load ?_); (refine Sy.sx_val (Sy.rx_loadAll T F) T rfl ?_); clear T; intro ac T)); show Sy.wpUx _ _ _ _ _ _ _ _ _))
  have G := big_r (Pk.RdX.mk (Sy.MemE.reX F (by repeat (first | exact Sy.Take.here | apply Sy.Take.there))) hC); rw [← e2] at G; refine Sy.sx_callX rfl T F (hc := G) (h := ?_); (clear T F G hC; intro v m cs ac w hR hS T F; obtain ⟨hV, hC⟩ := hR; dsimp only at hV hC)
  obtain ⟨rfl, hb2⟩ := hV
  repeat (((refine Sy.sx_plain (h := ?_)); ((refine Sy.sx_pure T (h := ?_); clear T; intro ac T)); show Sy.wpUx _ _ _ _ _ _ _ _ _))
  have G := sml_r (Pk.RdX.mk (Sy.MemE.reX F (by repeat (first | exact Sy.Take.here | apply Sy.Take.there))) hC); rw [← e3] at G; refine Sy.sx_callX rfl T F (hc := G) (h := ?_); (clear T F G hC; intro v m cs ac w hR hS T F; obtain ⟨hV, hC⟩ := hR; dsimp only at hV hC)
  obtain ⟨rfl, hb3⟩ := hV
  repeat (first
    | (((with_reducible refine Sy.is_load ?_); (first
    | refine Sy.st_loadOne T F (h := ?_)
    | refine Sy.st_loadAll T F (h := ?_)); clear T; intro ac T))
    | (((with_reducible refine Sy.is_store ?_); ((refine Sy.st_storeOne T F (h := ?_); conv => whnf)); clear T F; intro ac w T F))
    | (((with_reducible refine Sy.is_op ?_); refine Sy.st_pure T (h := ?_); clear T; intro ac T))
    | ((with_reducible refine Sy.atK (hK _ _ ?_)))
    | (with_reducible refine wp_region_lit ?_)
    | ((with_reducible refine wp_seq_k ?_); intro _ _)
    | (go_at_K; go_step)
    | (simp only [Exit.then, Exit.inBlock, ↓reduceIte, Nat.reduceEqDiff])
    | (with_reducible refine Sy.sx_nil ?_)
    | (with_reducible refine Sy.sx_end ?_)
    | (with_reducible refine Sy.sx_tail rfl rfl (fun K hK => ?_))
    | (((refine Sy.sx_storeOne (T := T) (F := F) (h := ?_); conv => whnf)); clear T F; intro ac w T F))
  have G := list_ints (Pk.RdX.mk (Sy.MemE.reX F (by repeat (first | exact Sy.Take.here | apply Sy.Take.there))) hC); rw [← e4] at G; refine Sy.st_callX T F (hc := G) (h := ?_); (clear T F G hC; intro v m cs ac w hR hS T F; obtain ⟨hV, hC⟩ := hR; dsimp only at hV hC)
  obtain ⟨va, vc, rfl, hv1, hv2, hv3⟩ := hV
  repeat (first
    | (((with_reducible refine Sy.is_load ?_); (refine Sy.st_loadAll T F (h := ?_)); clear T; intro ac T))
    | (((with_reducible refine Sy.is_store ?_); ((refine Sy.st_storeOne T F (h := ?_); conv => whnf)); clear T F; intro ac w T F))
    | (((with_reducible refine Sy.is_op ?_); refine Sy.st_pure T (h := ?_); clear T; intro ac T))
    | (with_reducible refine wpList_nil ?_)
    | (with_reducible refine wp_region_lit ?_)
    | ((with_reducible refine wp_seq_k ?_); intro _ _)
    | (go_at_K; go_step)
    | (simp only [Exit.then, Exit.inBlock, ↓reduceIte, Nat.reduceEqDiff]))
  have G := list_dones (Pk.RdX.mk (Sy.MemE.reX F (by repeat (first | exact Sy.Take.here | apply Sy.Take.there))) hC); rw [← e5] at G; refine Sy.st_callX T F (hc := G) (h := ?_); (clear T F G hC; intro v m cs ac w hR hS T F; obtain ⟨hV, hC⟩ := hR; dsimp only at hV hC)
  obtain ⟨da, dc, rfl, hd1, hd2, hd3⟩ := hV
  replace hv1 := Nums.sub hv1 hS
  repeat (first
    | (((with_reducible refine Sy.is_load ?_); (refine Sy.st_loadAll T F (h := ?_)); clear T; intro ac T))
    | (((with_reducible refine Sy.is_store ?_); ((refine Sy.st_storeOne T F (h := ?_); conv => whnf)); clear T F; intro ac w T F))
    | (((with_reducible refine Sy.is_op ?_); refine Sy.st_pure T (h := ?_); clear T; intro ac T))
    | (with_reducible refine wpList_nil ?_)
    | (with_reducible refine wp_region_lit ?_)
    | ((with_reducible refine wp_seq_k ?_); intro _ _)
    | (go_at_K; go_step)
    | (simp only [Exit.then, Exit.inBlock, ↓reduceIte, Nat.reduceEqDiff]))
  have G := list_cells (Pk.RdX.mk (Sy.MemE.reX F (by repeat (first | exact Sy.Take.here | apply Sy.Take.there))) hC); rw [← e6] at G; refine Sy.st_callX T F (hc := G) (h := ?_); (clear T F G hC; intro v m cs ac w hR hS T F; obtain ⟨hV, hC⟩ := hR; dsimp only at hV hC)
  obtain ⟨oa, oc, rfl, ho1, ho2, ho3⟩ := hV
  replace hv1 := Nums.sub hv1 hS
  replace hd1 := Dones.sub hd1 hS
  repeat (first
    | (((with_reducible refine Sy.is_load ?_); (refine Sy.st_loadAll T F (h := ?_)); clear T; intro ac T))
    | (((with_reducible refine Sy.is_store ?_); ((refine Sy.st_storeOne T F (h := ?_); conv => whnf)); clear T F; intro ac w T F))
    | (((with_reducible refine Sy.is_op ?_); refine Sy.st_pure T (h := ?_); clear T; intro ac T))
    | (with_reducible refine wpList_nil ?_)
    | (with_reducible refine wp_region_lit ?_)
    | ((with_reducible refine wp_seq_k ?_); intro _ _)
    | (go_at_K; go_step)
    | (simp only [Exit.then, Exit.inBlock, ↓reduceIte, Nat.reduceEqDiff]))
  have G := big_r (Pk.RdX.mk (Sy.MemE.reX F (by repeat (first | exact Sy.Take.here | apply Sy.Take.there))) hC); rw [← e7] at G; refine Sy.st_callX T F (hc := G) (h := ?_); (clear T F G hC; intro v m cs ac w hR hS T F; obtain ⟨hV, hC⟩ := hR; dsimp only at hV hC)
  obtain ⟨rfl, hb7⟩ := hV
  replace hv1 := Nums.sub hv1 hS
  replace hd1 := Dones.sub hd1 hS
  replace ho1 := Cels.sub ho1 hS
  repeat (first
    | (((with_reducible refine Sy.is_load ?_); (refine Sy.st_loadAll T F (h := ?_)); clear T; intro ac T))
    | (((with_reducible refine Sy.is_store ?_); ((refine Sy.st_storeOne T F (h := ?_); conv => whnf)); clear T F; intro ac w T F))
    | (((with_reducible refine Sy.is_op ?_); refine Sy.st_pure T (h := ?_); clear T; intro ac T))
    | (with_reducible refine wpList_nil ?_)
    | (with_reducible refine wp_region_lit ?_)
    | (go_at_K; go_step)
    | (simp only [Exit.then, Exit.inBlock, ↓reduceIte, Nat.reduceEqDiff]))
  have G := list_marks (Pk.RdX.mk (Sy.MemE.reX F (by repeat (first | exact Sy.Take.here | apply Sy.Take.there))) hC); rw [← e8] at G; refine Sy.st_callX T F (hc := G) (h := ?_); (clear T F G hC; intro v m cs ac w hR hS T F; obtain ⟨hV, hC⟩ := hR; dsimp only at hV hC)
  obtain ⟨ma, mc, rfl, hq1, hq2, hq3⟩ := hV
  replace hv1 := Nums.sub hv1 hS
  replace hd1 := Dones.sub hd1 hS
  replace ho1 := Cels.sub ho1 hS
  have hA : RegAt m ⟨k, i, t, l, d, o, la, q⟩ ⟨va, vc, da, dc, oa, oc, ma, mc⟩ := ⟨hb1, hb2, (by unfold I64; simp only; omega), hb7, hv1, hd1, ho1, hq1, ⟨hv2, hv3⟩, ⟨hd2, hd3⟩, ⟨ho2, ho3⟩, ⟨hq2, hq3⟩⟩
  repeat (first
    | (((with_reducible refine Sy.is_load ?_); (refine Sy.st_loadAll T F (h := ?_)); clear T; intro ac T))
    | (((with_reducible refine Sy.is_store ?_); ((refine Sy.st_storeOne T F (h := ?_); conv => whnf)); clear T F; intro ac w T F))
    | (((with_reducible refine Sy.is_op ?_); refine Sy.st_pure T (h := ?_); clear T; intro ac T))
    | (with_reducible refine wpList_nil ?_)
    | (with_reducible refine wp_region_lit ?_)
    | ((with_reducible refine wp_seq_k ?_); intro _ _)
    | (go_at_K; go_step)
    | (simp only [Exit.then, Exit.inBlock, ↓reduceIte, Nat.reduceEqDiff]))
  refine Sy.st_callV0 T F (hc := may_any w ⟨k, i, t, l, d, o, la, q⟩ ⟨va, vc, da, dc, oa, oc, ma, mc⟩ (hA.sub F.sub) hsh) (h := ?_); (clear T F; intro ac w T F)
  cases hm : mayS ⟨k, i, t, l, d, o, la, q⟩ with
  | true =>
    rw [hm] at T
    cases hw : wellS s8 with
    | true =>
      have hE : checkS ⟨k, i, t, l, d, o, la, q⟩ s8 = (⟨k, i, t, l, d, o, la, q⟩, s8) := by simp [checkS, hm, hw]
      have G := fun w' (hs : Below w.heap.size w w') => well_r (RdX.mk (Sy.MemE.reX (F.below hs) (by repeat (first | exact Sy.Take.here | apply Sy.Take.there))) hC)
      rw [hw] at G
      repeat (first
    | (((with_reducible refine Sy.is_load ?_); (refine Sy.st_loadAll T F (h := ?_)); clear T; intro ac T))
    | (((with_reducible refine Sy.is_op ?_); refine Sy.st_pure T (h := ?_); clear T; intro ac T))
    | ((with_reducible refine Sy.is_cond ?_); (refine Sy.st_false T (h := ?_)))
    | (with_reducible refine wpList_nil ?_)
    | (with_reducible refine wp_region_lit ?_)
    | (with_reducible refine wp_skip ?_)
    | ((with_reducible refine wp_seq_k ?_); intro _ _)
    | (go_at_K; go_step)
    | (simp only [Exit.then, Exit.inBlock, ↓reduceIte, Nat.reduceEqDiff]))
      refine Sy.st_callV0 T F (hc := G _ (Below.refl _ _)) (h := ?_); (clear T F; intro ac w T F)
      clear G
      repeat (first
    | (((with_reducible refine Sy.is_load ?_); (refine Sy.st_loadAll T F (h := ?_)); clear T; intro ac T))
    | (((with_reducible refine Sy.is_store ?_); (refine Sy.st_storeAll T F (h := ?_)); clear T F; intro ac w T F))
    | (((with_reducible refine Sy.is_op ?_); refine Sy.st_pure T (h := ?_); clear T; intro ac T))
    | ((with_reducible refine Sy.is_cond ?_); (refine Sy.st_false T (h := ?_)))
    | (with_reducible refine wpList_nil ?_)
    | (with_reducible refine wp_region_lit ?_)
    | (with_reducible refine wp_skip ?_)
    | (with_reducible refine wp_ret ?_)
    | ((with_reducible refine wp_seq_k ?_); intro _ _)
    | (go_at_K; go_step)
    | (simp only [Exit.then, Exit.inBlock, ↓reduceIte, Nat.reduceEqDiff]))
      ((try simp only [Exit.inBlock, Exit.then]); refine Sy.st_ret1 T F rfl (by repeat (first | exact Sy.ResV.nil | apply Sy.ResV.tmp rfl | apply Sy.ResV.row rfl rfl rfl (by repeat (first | exact Sy.Take.here | apply Sy.Take.there)) (by rfl) | apply Sy.ResV.one rfl rfl rfl (by repeat (first | exact Sy.Take.here | apply Sy.Take.there)) (by rfl))) ?_)
      rw [hE]
      exact F.retX (by repeat (first | exact Sy.Take.here | apply Sy.Take.there)) ⟨⟨_, rfl, ⟨va, vc, da, dc, oa, oc, ma, mc⟩, rfl, hA⟩, hC⟩
    | false =>
      have hE : checkS ⟨k, i, t, l, d, o, la, q⟩ s8 = (zeroReg, s8) := by simp [checkS, hm, hw]
      have G := fun w' (hs : Below w.heap.size w w') => well_r (RdX.mk (Sy.MemE.reX (F.below hs) (by repeat (first | exact Sy.Take.here | apply Sy.Take.there))) hC)
      rw [hw] at G
      repeat (first
    | (((with_reducible refine Sy.is_load ?_); (refine Sy.st_loadAll T F (h := ?_)); clear T; intro ac T))
    | (((with_reducible refine Sy.is_op ?_); refine Sy.st_pure T (h := ?_); clear T; intro ac T))
    | ((with_reducible refine Sy.is_cond ?_); (refine Sy.st_false T (h := ?_)))
    | (with_reducible refine wpList_nil ?_)
    | (with_reducible refine wp_region_lit ?_)
    | (with_reducible refine wp_skip ?_)
    | ((with_reducible refine wp_seq_k ?_); intro _ _)
    | (go_at_K; go_step)
    | (simp only [Exit.then, Exit.inBlock, ↓reduceIte, Nat.reduceEqDiff]))
      refine Sy.st_callV0 T F (hc := G _ (Below.refl _ _)) (h := ?_); (clear T F; intro ac w T F)
      clear G
      repeat (first
    | (((with_reducible refine Sy.is_store ?_); (refine Sy.st_storeAll T F (h := ?_)); clear T F; intro ac w T F))
    | (((with_reducible refine Sy.is_build ?_); refine Sy.st_build T (h := ?_); (conv => whnf); (repeat (refine ⟨by first | exact rfl | exact ⟨rfl, rfl⟩, ?_⟩; (conv => whnf))); clear T; intro ac T))
    | (((with_reducible refine Sy.is_op ?_); refine Sy.st_pure T (h := ?_); clear T; intro ac T))
    | ((with_reducible refine Sy.is_cond ?_); (refine Sy.st_true T (h := ?_)))
    | (with_reducible refine wpList_nil ?_)
    | (with_reducible refine wp_region_lit ?_)
    | (with_reducible refine wp_ret ?_)
    | ((with_reducible refine wp_seq_k ?_); intro _ _)
    | (go_at_K; go_step)
    | (simp only [Exit.then, Exit.inBlock, ↓reduceIte, Nat.reduceEqDiff]))
      ((try simp only [Exit.inBlock, Exit.then]); refine Sy.st_ret1 T F rfl (by repeat (first | exact Sy.ResV.nil | apply Sy.ResV.tmp rfl | apply Sy.ResV.row rfl rfl rfl (by repeat (first | exact Sy.Take.here | apply Sy.Take.there)) (by rfl) | apply Sy.ResV.one rfl rfl rfl (by repeat (first | exact Sy.Take.here | apply Sy.Take.there)) (by rfl))) ?_)
      rw [hE]
      exact F.retX (by repeat (first | exact Sy.Take.here | apply Sy.Take.there)) ⟨⟨_, rfl, zeroRegA, rfl, zeroReg_at _⟩, hC⟩
  | false =>
    rw [hm] at T
    repeat (first
    | (((with_reducible refine Sy.is_load ?_); (refine Sy.st_loadOne T F (h := ?_)); clear T; intro ac T))
    | (((with_reducible refine Sy.is_op ?_); refine Sy.st_pure T (h := ?_); clear T; intro ac T))
    | ((with_reducible refine Sy.is_cond ?_); (refine Sy.st_true T (h := ?_)))
    | (with_reducible refine wpList_nil ?_)
    | (with_reducible refine wp_region_lit ?_)
    | (go_at_K; go_step)
    | (simp only [Exit.then, Exit.inBlock, ↓reduceIte, Nat.reduceEqDiff]))
    have G := fail_r 3 (Pk.RdX.mk (Sy.MemE.reX F (by repeat (first | exact Sy.Take.here | apply Sy.Take.there))) hC); refine Sy.st_callX T F (hc := G) (h := ?_); (clear T F G hC; intro v m cs ac w hR hS T F; obtain ⟨hV, hC⟩ := hR)
    obtain rfl := hV
    have hw : wellS (failS 3 s8) = (s8.2 == 4) := by
      unfold wellS failS
      by_cases h0 : s8.2 = 0
      · simp [h0]
      · simp [h0]
    cases h4 : (s8.2 == 4) with
    | true =>
      have G := fun w' (hs : Below w.heap.size w w') => well_r (RdX.mk (Sy.MemE.reX (F.below hs) (by repeat (first | exact Sy.Take.here | apply Sy.Take.there))) hC)
      rw [hw.trans h4] at G
      have hE : checkS ⟨k, i, t, l, d, o, la, q⟩ s8 = (⟨k, i, t, l, d, o, la, q⟩, failS 3 s8) := by simp [checkS, hm, hw.trans h4]
      repeat (first
    | (((with_reducible refine Sy.is_load ?_); (refine Sy.st_loadAll T F (h := ?_)); clear T; intro ac T))
    | (with_reducible refine wpList_nil ?_)
    | (with_reducible refine wp_region_lit ?_)
    | ((with_reducible refine wp_seq_k ?_); intro _ _)
    | (go_at_K; go_step)
    | (simp only [Exit.then, Exit.inBlock, ↓reduceIte, Nat.reduceEqDiff]))
      refine Sy.st_callV0 T F (hc := G _ (Below.refl _ _)) (h := ?_); (clear T F; intro ac w T F)
      clear G
      repeat (first
    | (((with_reducible refine Sy.is_load ?_); (refine Sy.st_loadAll T F (h := ?_)); clear T; intro ac T))
    | (((with_reducible refine Sy.is_store ?_); (refine Sy.st_storeAll T F (h := ?_)); clear T F; intro ac w T F))
    | (((with_reducible refine Sy.is_op ?_); refine Sy.st_pure T (h := ?_); clear T; intro ac T))
    | ((with_reducible refine Sy.is_cond ?_); (refine Sy.st_false T (h := ?_)))
    | (with_reducible refine wpList_nil ?_)
    | (with_reducible refine wp_region_lit ?_)
    | (with_reducible refine wp_skip ?_)
    | (with_reducible refine wp_ret ?_)
    | ((with_reducible refine wp_seq_k ?_); intro _ _)
    | (go_at_K; go_step)
    | (simp only [Exit.then, Exit.inBlock, ↓reduceIte, Nat.reduceEqDiff]))
      ((try simp only [Exit.inBlock, Exit.then]); refine Sy.st_ret1 T F rfl (by repeat (first | exact Sy.ResV.nil | apply Sy.ResV.tmp rfl | apply Sy.ResV.row rfl rfl rfl (by repeat (first | exact Sy.Take.here | apply Sy.Take.there)) (by rfl) | apply Sy.ResV.one rfl rfl rfl (by repeat (first | exact Sy.Take.here | apply Sy.Take.there)) (by rfl))) ?_)
      rw [hE]
      exact F.retX (by repeat (first | exact Sy.Take.here | apply Sy.Take.there)) ⟨⟨_, rfl, ⟨va, vc, da, dc, oa, oc, ma, mc⟩, rfl, hA.sub hS⟩, hC⟩
    | false =>
      have G := fun w' (hs : Below w.heap.size w w') => well_r (RdX.mk (Sy.MemE.reX (F.below hs) (by repeat (first | exact Sy.Take.here | apply Sy.Take.there))) hC)
      rw [hw.trans h4] at G
      have hE : checkS ⟨k, i, t, l, d, o, la, q⟩ s8 = (zeroReg, failS 3 s8) := by simp [checkS, hm, hw.trans h4]
      repeat (first
    | (((with_reducible refine Sy.is_load ?_); (refine Sy.st_loadAll T F (h := ?_)); clear T; intro ac T))
    | (with_reducible refine wpList_nil ?_)
    | (with_reducible refine wp_region_lit ?_)
    | ((with_reducible refine wp_seq_k ?_); intro _ _)
    | (go_at_K; go_step)
    | (simp only [Exit.then, Exit.inBlock, ↓reduceIte, Nat.reduceEqDiff]))
      refine Sy.st_callV0 T F (hc := G _ (Below.refl _ _)) (h := ?_); (clear T F; intro ac w T F)
      clear G
      repeat (first
    | (((with_reducible refine Sy.is_store ?_); (refine Sy.st_storeAll T F (h := ?_)); clear T F; intro ac w T F))
    | (((with_reducible refine Sy.is_build ?_); refine Sy.st_build T (h := ?_); (conv => whnf); (repeat (refine ⟨by first | exact rfl | exact ⟨rfl, rfl⟩, ?_⟩; (conv => whnf))); clear T; intro ac T))
    | (((with_reducible refine Sy.is_op ?_); refine Sy.st_pure T (h := ?_); clear T; intro ac T))
    | ((with_reducible refine Sy.is_cond ?_); (refine Sy.st_true T (h := ?_)))
    | (with_reducible refine wpList_nil ?_)
    | (with_reducible refine wp_region_lit ?_)
    | (with_reducible refine wp_ret ?_)
    | ((with_reducible refine wp_seq_k ?_); intro _ _)
    | (go_at_K; go_step)
    | (simp only [Exit.then, Exit.inBlock, ↓reduceIte, Nat.reduceEqDiff]))
      ((try simp only [Exit.inBlock, Exit.then]); refine Sy.st_ret1 T F rfl (by repeat (first | exact Sy.ResV.nil | apply Sy.ResV.tmp rfl | apply Sy.ResV.row rfl rfl rfl (by repeat (first | exact Sy.Take.here | apply Sy.Take.there)) (by rfl) | apply Sy.ResV.one rfl rfl rfl (by repeat (first | exact Sy.Take.here | apply Sy.Take.there)) (by rfl))) ?_)
      rw [hE]
      exact F.retX (by repeat (first | exact Sy.Take.here | apply Sy.Take.there)) ⟨⟨_, rfl, zeroRegA, rfl, zeroReg_at _⟩, hC⟩
  
end Rt
end Go.Proofs.Ytniopkoaplkpkaa
