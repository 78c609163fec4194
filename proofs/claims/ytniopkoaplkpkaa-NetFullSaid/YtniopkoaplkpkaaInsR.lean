/- slices.Insert, Delete, Clone at []byte. Conditions: the slice that is written is the caller's own. Printed by a program (genins.py). -/
import Derived.Test.YtniopkoaplkpkaaSyV
import Derived.Test.YtniopkoaplkpkaaTab
import Derived.Test.YtniopkoaplkpkaaFacts
import Derived.Lib.Overlaps
import Derived.Laws.Externs
namespace Go.Proofs.Ytniopkoaplkpkaa
open Go.RowKit
set_option linter.unusedVariables false
set_option linter.unusedSimpArgs false
namespace Ins
open Sy (RetV RetM Sub RetO RetN)
open Rg (eqT eqF i64_wrap)

set_option maxRecDepth 20000 in
set_option maxHeartbeats 1000000 in
theorem deleteR (W : World) {ad : Option Addr} {cap k : Nat} {xs : List Value} (h : Own W 0 27 1 (.slice ad k cap) k xs) (hone : ∀ u ∈ xs, u.oneCell' = true) (i j : Nat) (hij : i < j) (hj : j ≤ k) :
    Calls Try.prog 82 #[.slice ad k cap, .int .i64 (i : Int), .int .i64 (j : Int)] W (RetO W (.slice ad k cap) 27 1 (i + (k - j)) (xs.take (i * 1) ++ xs.drop (j * 1))) := by
  obtain ⟨m, hm, hmW, F⟩ := Sy.Own.startO h
  have hcapM : cap ≤ maxLen := by
    obtain ⟨_, _, hv, _, _, hM, _⟩ := h
    simp at hv
    rw [hv.2]; exact hM
  have hkc : k ≤ cap := by
    obtain ⟨_, _, hv, _, hn, _⟩ := h
    simp at hv
    rw [hv.2]; exact hn
  have hM := hcapM
  unfold maxLen at hM
  obtain ⟨g, cs, rfl, _, hcl, _, _, htk, _, F⟩ := F.openSl (show cap ≠ 0 by omega)
  have hcsl : k * 1 ≤ cs.length := by rw [hcl]; exact Nat.mul_le_mul_right _ hkc
  have hone1 : ∀ u ∈ cs.take (k * 1), u.oneCell' = true := fun u hu => hone u (by rw [← htk]; exact hu)
  have t1 := eqF (a := (i : Int)) (b := (j : Int)) (by omega)
  refine Sy.enter Try.func82 rfl Try.ntmps82 rfl ?_; intro ac T; simp only [Sy.enum, Nat.zero_add, Nat.reduceAdd] at T
  repeat (first
    | (((with_reducible refine Sy.is_op ?_); refine Sy.st_pure T (h := ?_); clear T; intro ac T))
    | ((with_reducible refine Sy.atK (hK _ _ ?_)))
    | ((with_reducible refine Sy.is_cond ?_); (first | refine Sy.st_true T (h := ?_) | refine Sy.st_false T (h := ?_)))
    | (with_reducible refine wpList_nil ?_)
    | (with_reducible refine wp_region_lit ?_)
    | (with_reducible refine wp_block ?_)
    | (with_reducible refine wp_skip ?_)
    | (with_reducible refine wp_exit ?_)
    | (with_reducible refine wp_ret ?_)
    | ((with_reducible refine wp_seq_k ?_); intro _ _)
    | (go_at_K; go_step)
    | (simp only [Exit.then, Exit.inBlock, ↓reduceIte, Nat.reduceEqDiff])
    | ((first | refine Sy.sx_plain (h := ?_) | refine Sy.sx_guard (T := T) (h := ?_)); (first | (refine Sy.sx_pure T (h := ?_); clear T; intro ac T)); show Sy.wpUx _ _ _ _ _ _ _ _ _)
    | (with_reducible refine Sy.sx_fork ?_ ?_)
    | (with_reducible refine Sy.sx_nil ?_)
    | (with_reducible refine Sy.sx_end ?_)
    | (with_reducible refine Sy.sx_tail rfl rfl (fun K hK => ?_)))
  refine Sy.st_val (Sy.runs_slice3 T (by exact rfl) (by exact rfl) (by exact rfl) (by exact rfl) (show i ≤ j by omega) hj hkc (by exact rfl) (by exact rfl) (by exact rfl) (by exact rfl)) T (by exact rfl) ?_; (clear T; intro ac T)
  repeat (first
    | (((with_reducible refine Sy.is_op ?_); refine Sy.st_pure T (h := ?_); clear T; intro ac T))
    | ((with_reducible refine Sy.atK (hK _ _ ?_)))
    | ((with_reducible refine Sy.is_cond ?_); (first | refine Sy.st_true T (h := ?_) | refine Sy.st_false T (h := ?_)))
    | (with_reducible refine wpList_nil ?_)
    | (with_reducible refine wp_region_lit ?_)
    | (with_reducible refine wp_block ?_)
    | (with_reducible refine wp_skip ?_)
    | (with_reducible refine wp_exit ?_)
    | (with_reducible refine wp_ret ?_)
    | ((with_reducible refine wp_seq_k ?_); intro _ _)
    | (go_at_K; go_step)
    | (simp only [Exit.then, Exit.inBlock, ↓reduceIte, Nat.reduceEqDiff])
    | ((first | refine Sy.sx_plain (h := ?_) | refine Sy.sx_guard (T := T) (h := ?_)); (first | (refine Sy.sx_pure T (h := ?_); clear T; intro ac T)); show Sy.wpUx _ _ _ _ _ _ _ _ _)
    | (with_reducible refine Sy.sx_fork ?_ ?_)
    | (with_reducible refine Sy.sx_nil ?_)
    | (with_reducible refine Sy.sx_end ?_)
    | (with_reducible refine Sy.sx_tail rfl rfl (fun K hK => ?_)))
  refine Sy.sx_region F [g] (.t 0 (.t 1 (.t 2 (.t 3 (.t 4 (.t 5 (.h 6 (.t 7 .e)))))))) [] (by kernel_rfl) ?_; (clear F; intro w F)
  repeat (first
    | (((with_reducible refine Sy.is_op ?_); refine Sy.st_pure T (h := ?_); clear T; intro ac T))
    | ((with_reducible refine Sy.atK (hK _ _ ?_)))
    | ((with_reducible refine Sy.is_cond ?_); (first | refine Sy.st_true T (h := ?_) | refine Sy.st_false T (h := ?_)))
    | (with_reducible refine wpList_nil ?_)
    | (with_reducible refine wp_region_lit ?_)
    | (with_reducible refine wp_block ?_)
    | (with_reducible refine wp_skip ?_)
    | (with_reducible refine wp_exit ?_)
    | (with_reducible refine wp_ret ?_)
    | ((with_reducible refine wp_seq_k ?_); intro _ _)
    | (go_at_K; go_step)
    | (simp only [Exit.then, Exit.inBlock, ↓reduceIte, Nat.reduceEqDiff])
    | ((first | refine Sy.sx_plain (h := ?_) | refine Sy.sx_guard (T := T) (h := ?_)); (first | (refine Sy.sx_pure T (h := ?_); clear T; intro ac T)); show Sy.wpUx _ _ _ _ _ _ _ _ _)
    | (with_reducible refine Sy.sx_fork ?_ ?_)
    | (with_reducible refine Sy.sx_nil ?_)
    | (with_reducible refine Sy.sx_end ?_)
    | (with_reducible refine Sy.sx_tail rfl rfl (fun K hK => ?_)))
  refine Sy.sx_plain rfl rfl (Sy.sx_val (fun w' _ => Sy.runs_sliceHa T (show i ≤ cap by omega) (by exact rfl) (by exact rfl) (by exact rfl) (by exact rfl) (by exact rfl) (by exact rfl)) T rfl ?_); (clear T; intro ac T); show Sy.wpUx _ _ _ _ _ _ _ _ _
  repeat (first
    | (((with_reducible refine Sy.is_op ?_); refine Sy.st_pure T (h := ?_); clear T; intro ac T))
    | ((with_reducible refine Sy.atK (hK _ _ ?_)))
    | ((with_reducible refine Sy.is_cond ?_); (first | refine Sy.st_true T (h := ?_) | refine Sy.st_false T (h := ?_)))
    | (with_reducible refine wpList_nil ?_)
    | (with_reducible refine wp_region_lit ?_)
    | (with_reducible refine wp_block ?_)
    | (with_reducible refine wp_skip ?_)
    | (with_reducible refine wp_exit ?_)
    | (with_reducible refine wp_ret ?_)
    | ((with_reducible refine wp_seq_k ?_); intro _ _)
    | (go_at_K; go_step)
    | (simp only [Exit.then, Exit.inBlock, ↓reduceIte, Nat.reduceEqDiff])
    | ((first | refine Sy.sx_plain (h := ?_) | refine Sy.sx_guard (T := T) (h := ?_)); (first | (refine Sy.sx_pure T (h := ?_); clear T; intro ac T)); show Sy.wpUx _ _ _ _ _ _ _ _ _)
    | (with_reducible refine Sy.sx_fork ?_ ?_)
    | (with_reducible refine Sy.sx_nil ?_)
    | (with_reducible refine Sy.sx_end ?_)
    | (with_reducible refine Sy.sx_tail rfl rfl (fun K hK => ?_)))
  refine Sy.sx_plain rfl rfl (Sy.sx_val (fun w' _ => Sy.runs_sliceL T (by exact rfl) (by exact rfl) hj (by exact rfl) (by exact rfl) (by exact rfl) (by exact rfl)) T rfl ?_); (clear T; intro ac T); show Sy.wpUx _ _ _ _ _ _ _ _ _
  have hMl : ((cs.drop (j * 1)).take (k * 1 - j * 1)).length = k * 1 - j * 1 := by simp; omega
  obtain ⟨sa, hsa, hsc⟩ : ∃ sa : Addr, (if cap = j then some (⟨g, 0, none⟩ : Addr) else (some (⟨g, 0, none⟩ : Addr)).map (·.add (j * 1))) = some sa ∧ ∀ q v, ((cs.drop (j * 1)).take (k * 1 - j * 1))[q]? = some v → w.cell? (sa.add q) = some v := by
    by_cases hcj : cap = j
    · refine ⟨⟨g, 0, none⟩, by rw [if_pos hcj], fun q v hq => ?_⟩
      have : k = j := by omega
      subst this
      simp at hq
    · refine ⟨⟨g, 0 + j * 1, none⟩, Sy.ad_at hcj g 0 1, fun q v hq => ?_⟩
      rw [addr_add]
      rw [List.getElem?_take] at hq
      split at hq
      · rw [List.getElem?_drop] at hq
        have := F.get Sy.Take.here
        simpa [World.cell?, this] using hq
      · cases hq
  rw [hsa] at T
  repeat (first
    | (((with_reducible refine Sy.is_op ?_); refine Sy.st_pure T (h := ?_); clear T; intro ac T))
    | ((with_reducible refine Sy.atK (hK _ _ ?_)))
    | ((with_reducible refine Sy.is_cond ?_); (first | refine Sy.st_true T (h := ?_) | refine Sy.st_false T (h := ?_)))
    | (with_reducible refine wpList_nil ?_)
    | (with_reducible refine wp_region_lit ?_)
    | (with_reducible refine wp_block ?_)
    | (with_reducible refine wp_skip ?_)
    | (with_reducible refine wp_exit ?_)
    | (with_reducible refine wp_ret ?_)
    | ((with_reducible refine wp_seq_k ?_); intro _ _)
    | (go_at_K; go_step)
    | (simp only [Exit.then, Exit.inBlock, ↓reduceIte, Nat.reduceEqDiff])
    | ((first | refine Sy.sx_plain (h := ?_) | refine Sy.sx_guard (T := T) (h := ?_)); (first | (refine Sy.sx_pure T (h := ?_); clear T; intro ac T)); show Sy.wpUx _ _ _ _ _ _ _ _ _)
    | (with_reducible refine Sy.sx_fork ?_ ?_)
    | (with_reducible refine Sy.sx_nil ?_)
    | (with_reducible refine Sy.sx_end ?_)
    | (with_reducible refine Sy.sx_tail rfl rfl (fun K hK => ?_)))
  refine Sy.sx_appRoom rfl T F Sy.Take.here (by simp) (news := (cs.drop (j * 1)).take (k * 1 - j * 1)) ?_ hsc (show i + (k - j) ≤ cap by omega) ?_ ?_ (h := ?_)
  · rw [hMl]; omega
  · rw [hMl]; omega
  · intro u hu
    refine hone1 u ?_
    rw [← List.drop_take] at hu
    exact List.mem_of_mem_drop hu
  clear T F hsc; intro ac w T F
  repeat (first
    | (((with_reducible refine Sy.is_op ?_); refine Sy.st_pure T (h := ?_); clear T; intro ac T))
    | ((with_reducible refine Sy.atK (hK _ _ ?_)))
    | ((with_reducible refine Sy.is_cond ?_); (first | refine Sy.st_true T (h := ?_) | refine Sy.st_false T (h := ?_)))
    | (with_reducible refine wpList_nil ?_)
    | (with_reducible refine wp_region_lit ?_)
    | (with_reducible refine wp_block ?_)
    | (with_reducible refine wp_skip ?_)
    | (with_reducible refine wp_exit ?_)
    | (with_reducible refine wp_ret ?_)
    | ((with_reducible refine wp_seq_k ?_); intro _ _)
    | (go_at_K; go_step)
    | (simp only [Exit.then, Exit.inBlock, ↓reduceIte, Nat.reduceEqDiff])
    | ((first | refine Sy.sx_plain (h := ?_) | refine Sy.sx_guard (T := T) (h := ?_)); (first | (refine Sy.sx_pure T (h := ?_); clear T; intro ac T)); show Sy.wpUx _ _ _ _ _ _ _ _ _)
    | (with_reducible refine Sy.sx_fork ?_ ?_)
    | (with_reducible refine Sy.sx_nil ?_)
    | (with_reducible refine Sy.sx_end ?_)
    | (with_reducible refine Sy.sx_tail rfl rfl (fun K hK => ?_)))
  refine Sy.st_val (Sy.runs_sliceLHa T (show i + (k - j) ≤ k by omega) hkc (show cap ≠ i + (k - j) by omega) (by exact rfl) (by exact rfl) (by exact rfl) (by exact rfl) (by exact rfl) (by exact rfl) (by exact rfl)) T (by exact rfl) ?_; (clear T; intro ac T)
  have e3 : 0 + (i + (k - j)) * 1 = i * 1 + (k * 1 - j * 1) := by omega
  rw [e3] at T
  refine Sy.st_clearB T F Sy.Take.here ?_ (h := ?_)
  · rw [Sy.putL_len (by rw [hMl]; omega)]; omega
  clear T F; intro zs ac w hzs T F
  repeat (first
    | (((with_reducible refine Sy.is_op ?_); refine Sy.st_pure T (h := ?_); clear T; intro ac T))
    | ((with_reducible refine Sy.atK (hK _ _ ?_)))
    | ((with_reducible refine Sy.is_cond ?_); (first | refine Sy.st_true T (h := ?_) | refine Sy.st_false T (h := ?_)))
    | (with_reducible refine wpList_nil ?_)
    | (with_reducible refine wp_region_lit ?_)
    | (with_reducible refine wp_block ?_)
    | (with_reducible refine wp_skip ?_)
    | (with_reducible refine wp_exit ?_)
    | (with_reducible refine wp_ret ?_)
    | ((with_reducible refine wp_seq_k ?_); intro _ _)
    | (go_at_K; go_step)
    | (simp only [Exit.then, Exit.inBlock, ↓reduceIte, Nat.reduceEqDiff])
    | ((first | refine Sy.sx_plain (h := ?_) | refine Sy.sx_guard (T := T) (h := ?_)); (first | (refine Sy.sx_pure T (h := ?_); clear T; intro ac T)); show Sy.wpUx _ _ _ _ _ _ _ _ _)
    | (with_reducible refine Sy.sx_fork ?_ ?_)
    | (with_reducible refine Sy.sx_nil ?_)
    | (with_reducible refine Sy.sx_end ?_)
    | (with_reducible refine Sy.sx_tail rfl rfl (fun K hK => ?_)))
  ((try simp only [Exit.inBlock, Exit.then]); refine Sy.st_ret1 T F rfl (by repeat (first | exact Sy.ResV.nil | apply Sy.ResV.tmp rfl | apply Sy.ResV.row rfl rfl rfl (by repeat (first | exact Sy.Take.here | apply Sy.Take.there)) (by rfl) | apply Sy.ResV.one rfl rfl rfl (by repeat (first | exact Sy.Take.here | apply Sy.Take.there)) (by rfl))) ?_)
  have e1 := Sy.del_shift (cs := cs) (zs := zs) (A := i * 1) (J := j * 1) (B := k * 1) (by omega) (by omega) hcsl
  have e2 : xs = cs.take (k * 1) := htk.symm
  have e5 : i * 1 + (k * 1 - j * 1) = (i + (k - j)) * 1 := by omega
  rw [e2, ← e1, e5]
  rw [e5] at F
  refine (F.closeSl ?_ (show i + (k - j) ≤ cap by omega) hcapM rfl).retO
  rw [Sy.putL_len, Sy.putL_len]
  · exact hcl
  · rw [hMl]; omega
  · rw [Sy.putL_len (by rw [hMl]; omega)]; omega

end Ins
end Go.Proofs.Ytniopkoaplkpkaa
