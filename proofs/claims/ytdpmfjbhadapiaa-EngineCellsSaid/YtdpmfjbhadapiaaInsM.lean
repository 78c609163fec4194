/- slices.Insert, Delete, Clone at api.Mark. Conditions: the slice that is written is the caller's own. Printed by a program (genins.py). slices.Insert, Delete, Clone at api.Done. Conditions: the slice that is written is the caller's own. Printed by a program (genins.py). -/
import Derived.Test.YtdpmfjbhadapiaaSyV
import Derived.Test.YtdpmfjbhadapiaaTab
import Derived.Test.YtdpmfjbhadapiaaFacts
import Derived.Lib.Overlaps
import Derived.Laws.Externs
namespace Go.Proofs.Ytdpmfjbhadapiaa
open Go.RowKit
set_option linter.unusedVariables false
set_option linter.unusedSimpArgs false
namespace Ins
open Sy (RetV RetM Sub RetO RetN)
open Rg (eqT eqF i64_wrap)

set_option maxRecDepth 20000 in
set_option maxHeartbeats 1000000 in
theorem insertM (W : World) {ad : Option Addr} {cap k : Nat} {xs : List Value} (h : Own W 0 69 3 (.slice ad k cap) k xs) (hone : ∀ u ∈ xs, u.oneCell' = true) (i : Nat) (hi : i ≤ k) {g2 : Nat} {news : List Value} (hnl : news.length = 3) (hone2 : ∀ u ∈ news, u.oneCell' = true)
    (hne : blk (.slice ad k cap) ≠ some g2) (hg2 : W.heap[g2]? = some (.cells news.toArray 69 (0, 0))) (hsmall : (k + 1) * 24 ≤ 140737488355328) :
    Calls Try.prog 120 #[.slice ad k cap, .int .i64 (i : Int), .slice (some ⟨g2, 0, none⟩) 1 1] W (RetO W (.slice ad k cap) 69 3 (k + 1) (xs.take (i * 3) ++ news ++ xs.drop (i * 3))) := by
  obtain ⟨m, hm, hmW, F⟩ := Sy.Own.startO h
  have hxl : xs.length = k * 3 := by
    obtain ⟨_, _, _, hl, _⟩ := h
    exact hl
  have hcm : ∀ j v, news[j]? = some v → m.cell? ((⟨g2, 0, none⟩ : Addr).add j) = some v := fun j v hj => by
    rw [addr_add, hm _ hne]
    simp [World.cell?, hg2, hj]
  have hcells : Cells m (some ⟨g2, 0, none⟩) news := .inr ⟨g2, 0, rfl, fun j hj => by
    have := hcm j _ (List.getElem?_eq_getElem hj)
    rwa [addr_add] at this⟩
  have hcapM : cap ≤ maxLen := by
    obtain ⟨_, _, hv, _, _, hM, _⟩ := h
    simp at hv
    rw [hv.2]; exact hM
  have hkc : k ≤ cap := by
    obtain ⟨_, _, hv, _, hn, _⟩ := h
    simp at hv
    rw [hv.2]; exact hn
  have hM := hcapM
  unfold maxLen at hM
  refine Sy.enter Try.func120 rfl Try.ntmps120 rfl ?_; intro ac T; simp only [Sy.enum, Nat.zero_add, Nat.reduceAdd] at T
  repeat (first
    | (((with_reducible refine Sy.is_op ?_); refine Sy.st_pure T (h := ?_); clear T; intro ac T))
    | (with_reducible refine wpList_nil ?_)
    | (with_reducible refine wp_region_lit ?_)
    | ((with_reducible refine wp_seq_k ?_); intro _ _)
    | (go_at_K; go_step)
    | (simp only [Exit.then, Exit.inBlock, ↓reduceIte, Nat.reduceEqDiff]))
  refine Sy.st_val (Sy.runs_sliceL T (by exact rfl) (by exact rfl) hi (by exact rfl) (by exact rfl) (by exact rfl) (by exact rfl)) T (by exact rfl) ?_; (clear T; intro ac T)
  by_cases hik : i = k
  · subst hik
    have t1 := eqT (a := (i : Int)) (b := (i : Int)) rfl
    repeat (first
    | (((with_reducible refine Sy.is_op ?_); refine Sy.st_pure T (h := ?_); clear T; intro ac T))
    | ((with_reducible refine Sy.is_cond ?_); (first
    | refine Sy.st_true T (h := ?_)
    | refine Sy.st_false T (h := ?_)))
    | (with_reducible refine wpList_nil ?_)
    | (with_reducible refine wp_region_lit ?_)
    | (with_reducible refine wp_skip ?_)
    | ((with_reducible refine wp_seq_k ?_); intro _ _)
    | (go_at_K; go_step)
    | (simp only [Exit.then, Exit.inBlock, ↓reduceIte, Nat.reduceEqDiff]))
    refine Sy.st_appendC T F (k2 := 1) (news := news) (Sy.cells_sub hcells F.sub) (by omega) hone2 (hbytes := by simpa using hsmall) (h := ?_); (clear T F; intro ad' cap' ac w T F)
    repeat (first
    | (((with_reducible refine Sy.is_op ?_); refine Sy.st_pure T (h := ?_); clear T; intro ac T))
    | (with_reducible refine wpList_nil ?_)
    | (with_reducible refine wp_ret ?_)
    | (go_at_K; go_step)
    | (simp only [Exit.then, Exit.inBlock, ↓reduceIte, Nat.reduceEqDiff]))
    ((try simp only [Exit.inBlock, Exit.then]); refine Sy.st_ret1 T F rfl (by repeat (first | exact Sy.ResV.nil | apply Sy.ResV.tmp rfl | apply Sy.ResV.row rfl rfl rfl (by repeat (first | exact Sy.Take.here | apply Sy.Take.there)) (by rfl) | apply Sy.ResV.one rfl rfl rfl (by repeat (first | exact Sy.Take.here | apply Sy.Take.there)) (by rfl))) ?_)
    have e1 : xs.take (i * 3) ++ news ++ xs.drop (i * 3) = xs ++ news := by rw [List.take_of_length_le (by omega), List.drop_of_length_le (by omega), List.append_nil]
    rw [e1]
    exact F.retO
  · have hlt : i < k := by omega
    have t1 := eqF (a := (i : Int)) (b := (k : Int)) (by omega)
    have wk : IntKind.i64.wrap ((k : Int) + ((1 : Nat) : Int)) = ((k + 1 : Nat) : Int) := by rw [i64_wrap (by omega) (by omega)]; omega
    have wi : IntKind.i64.wrap ((i : Int) + ((1 : Nat) : Int)) = ((i + 1 : Nat) : Int) := by rw [i64_wrap (by omega) (by omega)]; omega
    have wd : IntKind.i64.wrap (((k + 1 : Nat) : Int) - (i : Int)) = ((k + 1 - i : Nat) : Int) := by rw [i64_wrap (by omega) (by omega)]; omega
    obtain ⟨g, cs, rfl, _, hcl, _, _, htk, _, F⟩ := F.openSl (show cap ≠ 0 by omega)
    have hne' : g ≠ g2 := fun e => hne (by rw [Sy.blk_of (cap := cap) (show cap ≠ 0 by omega) rfl, e])
    have hcsl : k * 3 ≤ cs.length := by rw [hcl]; exact Nat.mul_le_mul_right _ hkc
    have hone1 : ∀ u ∈ cs.take (k * 3), u.oneCell' = true := fun u hu => hone u (by rw [← htk]; exact hu)
    by_cases hroom : cap < k + 1
    · have hck : cap = k := by omega
      subst hck
      have t2 : decide (((cap + 1 : Nat) : Int) > (cap : Int)) = true := decide_eq_true (by omega)
      repeat (first
    | (((with_reducible refine Sy.is_op ?_); refine Sy.st_pure T (h := ?_); clear T; intro ac T))
    | ((with_reducible refine Sy.is_cond ?_); (refine Sy.st_false T (h := ?_)))
    | (with_reducible refine wpList_nil ?_)
    | (with_reducible refine wp_region_lit ?_)
    | (with_reducible refine wp_skip ?_)
    | ((with_reducible refine wp_seq_k ?_); intro _ _)
    | (go_at_K; go_step)
    | (simp only [Exit.then, Exit.inBlock, ↓reduceIte, Nat.reduceEqDiff]))
      refine Sy.st_val (Sy.runs_cap T (by exact rfl) (by exact rfl) (by exact rfl)) T (by exact rfl) ?_; (clear T; intro ac T)
      repeat (first
    | (((with_reducible refine Sy.is_op ?_); refine Sy.st_pure T (h := ?_); clear T; intro ac T))
    | ((with_reducible refine Sy.is_cond ?_); (refine Sy.st_true T (h := ?_)))
    | (with_reducible refine wpList_nil ?_)
    | (with_reducible refine wp_region_lit ?_)
    | ((with_reducible refine wp_seq_k ?_); intro _ _)
    | (go_at_K; go_step)
    | (simp only [Exit.then, Exit.inBlock, ↓reduceIte, Nat.reduceEqDiff]))
      refine Sy.st_val (Sy.runs_sliceHa T (show i ≤ cap by omega) (by exact rfl) (by exact rfl) (by exact rfl) (by exact rfl) (by exact rfl) (by exact rfl)) T (by exact rfl) ?_; (clear T; intro ac T)
      repeat ((((with_reducible refine Sy.is_op ?_); refine Sy.st_pure T (h := ?_); clear T; intro ac T)))
      have hgc : ∀ j v, cs[j]? = some v → W.cell? ⟨g, j, none⟩ = some v := fun j v hj => by
        have := F.get Sy.Take.here
        simp [World.cell?, this, hj]
      refine Sy.st_appMake T F (k := i) (cap := cap) (k2 := cap + 1 - i) (s := 3) (olds := cs.take (i * 3)) (by simp; omega) (fun j v hj => ?_) (by omega) (by omega) (hbytes := ?_) (h := ?_)
      · rw [addr_add, Nat.zero_add]
        exact hgc j v (by rw [List.getElem?_take] at hj; split at hj; exact hj; cases hj)
      · show (i + (cap + 1 - i)) * 24 ≤ 140737488355328; omega
      clear T F hgc; intro g3 cap' tl ac w hc1 hc2 htl T F
      rw [show i + (cap + 1 - i) = cap + 1 by omega] at hc1 T
      repeat (first
    | (((with_reducible refine Sy.is_op ?_); refine Sy.st_pure T (h := ?_); clear T; intro ac T))
    | (with_reducible refine wpList_nil ?_)
    | (with_reducible refine wp_region_lit ?_)
    | ((with_reducible refine wp_seq_k ?_); intro _ _)
    | (go_at_K; go_step)
    | (simp only [Exit.then, Exit.inBlock, ↓reduceIte, Nat.reduceEqDiff]))
      refine Sy.st_val (Sy.runs_sliceLa T (show i ≤ cap + 1 by omega) (show cap' ≠ i by omega) (by exact rfl) (by exact rfl) (by exact rfl) (by exact rfl) (by exact rfl) (by exact rfl)) T (by exact rfl) ?_; (clear T; intro ac T)
      repeat ((((with_reducible refine Sy.is_op ?_); refine Sy.st_pure T (h := ?_); clear T; intro ac T)))
      have htl2 : 3 + (cap * 3 - i * 3) ≤ tl.length := by
        rw [htl]
        have h1 : (cap + 1 - i) * 3 ≤ (cap' - i) * 3 := Nat.mul_le_mul_right _ (by omega)
        omega
      refine Sy.st_copyB T F Sy.Take.here (news := news) ?_ (fun j v hj => F.sub _ _ (hcm j v hj)) ?_ hone2 (h := ?_)
      · show news.length = min 1 (cap + 1 - i) * 3
        rw [Nat.min_eq_left (by omega : (1 : Nat) ≤ cap + 1 - i)]; omega
      · simp; omega
      clear T F; intro ac w T F
      repeat (first
    | (with_reducible refine wpList_nil ?_)
    | ((with_reducible refine wp_seq_k ?_); intro _ _)
    | (go_at_K; go_step)
    | (simp only [Exit.then, Exit.inBlock, ↓reduceIte, Nat.reduceEqDiff]))
      refine Sy.sx_region F [g3] (.t 0 (.t 1 (.t 2 (.t 3 (.t 4 (.t 5 (.t 6 (.t 7 (.h 8 .e))))))))) [] (by kernel_rfl) ?_; (clear F; intro w F)
      repeat (((refine Sy.sx_plain (h := ?_)); ((refine Sy.sx_pure T (h := ?_); clear T; intro ac T)); show Sy.wpUx _ _ _ _ _ _ _ _ _))
      refine Sy.sx_plain rfl rfl (Sy.sx_val (fun w' _ => Sy.runs_sliceLa T (show i + 1 ≤ cap + 1 by omega) (show cap' ≠ i + 1 by omega) (by exact rfl) (by exact rfl) (by exact rfl) (by exact rfl) (by exact rfl) (by exact rfl)) T rfl ?_); (clear T; intro ac T); show Sy.wpUx _ _ _ _ _ _ _ _ _
      repeat (((refine Sy.sx_plain (h := ?_)); ((refine Sy.sx_pure T (h := ?_); clear T; intro ac T)); show Sy.wpUx _ _ _ _ _ _ _ _ _))
      refine Sy.sx_plain rfl rfl (Sy.sx_val (fun w' _ => Sy.runs_sliceLa T (show i ≤ cap by omega) (show cap ≠ i by omega) (by exact rfl) (by exact rfl) (by exact rfl) (by exact rfl) (by exact rfl) (by exact rfl)) T rfl ?_); (clear T; intro ac T); show Sy.wpUx _ _ _ _ _ _ _ _ _
      skip
      have hgc : ∀ j v, cs[j]? = some v → w.cell? ⟨g, j, none⟩ = some v := fun j v hj => by
        have := F.get (Sy.Take.there Sy.Take.here)
        simp [World.cell?, this, hj]
      refine Sy.sx_copyB rfl T F Sy.Take.here (by simp) (news := cs.drop (i * 3)) ?_ (fun j v hj => ?_) ?_ ?_ (h := ?_)
      · show (cs.drop (i * 3)).length = min (cap - i) (cap + 1 - (i + 1)) * 3
        rw [Nat.min_eq_left (by omega : cap - i ≤ cap + 1 - (i + 1)), List.length_drop]; omega
      · rw [addr_add]
        exact hgc _ _ (by rw [List.getElem?_drop] at hj; simpa using hj)
      · rw [Sy.putL_len (by simp; omega), List.length_drop]; simp; omega
      · intro u hu
        refine hone1 u ?_
        rw [List.take_of_length_le (by omega)]
        exact List.mem_of_mem_drop hu
      clear T F hgc; intro ac w T F
      repeat (first
    | (((with_reducible refine Sy.is_op ?_); refine Sy.st_pure T (h := ?_); clear T; intro ac T))
    | (with_reducible refine wpList_nil ?_)
    | (with_reducible refine wp_region_lit ?_)
    | (with_reducible refine wp_ret ?_)
    | ((with_reducible refine wp_seq_k ?_); intro _ _)
    | (go_at_K; go_step)
    | (simp only [Exit.then, Exit.inBlock, ↓reduceIte, Nat.reduceEqDiff])
    | (with_reducible refine Sy.sx_nil ?_)
    | (with_reducible refine Sy.sx_end ?_))
      ((try simp only [Exit.inBlock, Exit.then]); refine Sy.st_ret1 T F rfl (by repeat (first | exact Sy.ResV.nil | apply Sy.ResV.tmp rfl | apply Sy.ResV.row rfl rfl rfl (by repeat (first | exact Sy.Take.here | apply Sy.Take.there)) (by rfl) | apply Sy.ResV.one rfl rfl rfl (by repeat (first | exact Sy.Take.here | apply Sy.Take.there)) (by rfl))) ?_)
      have e1 := Sy.ins_grow (cs := cs) (tl := tl) (news := news) (A := i * 3) (B := cap * 3) (s := 3) (by omega) hcl hnl htl2
      have e2 : xs = cs := by rw [← htk, List.take_of_length_le (by omega)]
      rw [e2, ← e1]
      have e3 : 0 + i * 3 = i * 3 := by omega
      have e4 : 0 + (i + 1) * 3 = i * 3 + 3 := by omega
      have e5 : cap * 3 + 3 = (cap + 1) * 3 := by omega
      rw [e3, e4] at F
      rw [e5]
      refine (F.closeSl ?_ hc1 hc2 rfl).retO
      rw [Sy.putL_len, Sy.putL_len]
      · have : (cap' - i) * 3 = cap' * 3 - i * 3 := Nat.sub_mul ..
        have : i * 3 ≤ cap' * 3 := Nat.mul_le_mul_right _ (by omega)
        simp; omega
      · simp; omega
      · rw [Sy.putL_len (by simp; omega)]; simp; omega
    · have t2 : decide (((k + 1 : Nat) : Int) > (cap : Int)) = false := decide_eq_false (by omega)
      have hcs2 : (k + 1) * 3 ≤ cs.length := by rw [hcl]; exact Nat.mul_le_mul_right _ (by omega)
      repeat (first
    | (((with_reducible refine Sy.is_op ?_); refine Sy.st_pure T (h := ?_); clear T; intro ac T))
    | ((with_reducible refine Sy.is_cond ?_); (refine Sy.st_false T (h := ?_)))
    | (with_reducible refine wpList_nil ?_)
    | (with_reducible refine wp_region_lit ?_)
    | (with_reducible refine wp_skip ?_)
    | ((with_reducible refine wp_seq_k ?_); intro _ _)
    | (go_at_K; go_step)
    | (simp only [Exit.then, Exit.inBlock, ↓reduceIte, Nat.reduceEqDiff]))
      refine Sy.st_val (Sy.runs_cap T (by exact rfl) (by exact rfl) (by exact rfl)) T (by exact rfl) ?_; (clear T; intro ac T)
      repeat (first
    | (((with_reducible refine Sy.is_op ?_); refine Sy.st_pure T (h := ?_); clear T; intro ac T))
    | ((with_reducible refine Sy.is_cond ?_); (refine Sy.st_false T (h := ?_)))
    | (with_reducible refine wpList_nil ?_)
    | (with_reducible refine wp_region_lit ?_)
    | (with_reducible refine wp_skip ?_)
    | ((with_reducible refine wp_seq_k ?_); intro _ _)
    | (go_at_K; go_step)
    | (simp only [Exit.then, Exit.inBlock, ↓reduceIte, Nat.reduceEqDiff]))
      refine Sy.st_val (Sy.runs_sliceHa T (show k + 1 ≤ cap by omega) (by exact rfl) (by exact rfl) (by exact rfl) (by exact rfl) (by exact rfl) (by exact rfl)) T (by exact rfl) ?_; (clear T; intro ac T)
      repeat (first
    | (((with_reducible refine Sy.is_op ?_); refine Sy.st_pure T (h := ?_); clear T; intro ac T))
    | (with_reducible refine wpList_nil ?_)
    | (with_reducible refine wp_region_lit ?_)
    | ((with_reducible refine wp_seq_k ?_); intro _ _)
    | (go_at_K; go_step)
    | (simp only [Exit.then, Exit.inBlock, ↓reduceIte, Nat.reduceEqDiff]))
      refine Sy.st_val (Sy.runs_sliceLa T (show i + 1 ≤ k + 1 by omega) (show cap ≠ i + 1 by omega) (by exact rfl) (by exact rfl) (by exact rfl) (by exact rfl) (by exact rfl) (by exact rfl)) T (by exact rfl) ?_; (clear T; intro ac T)
      have hov : (callFunc 122 #[.slice (some ⟨g2, 0, none⟩) 1 1, .slice (some ⟨g, 0 + (i + 1) * 3, none⟩) (k + 1 - (i + 1)) (cap - (i + 1))]).run Try.prog W = .ok (.value (.bool false)) W := by
        have hgw := F.get Sy.Take.here
        have hg2w := hg2
        obtain ⟨hu, q, hq, hqs⟩ := Sy.slice_ty (P := Try.prog) (tab := Sy.tab) (fl := Sy.fl) (t := 49) (e := 69) (s := 3) (by exact rfl) (by exact rfl) (by exact rfl) (by exact rfl)
        rw [run_callFunc_extern Try.func122 (by kernel_rfl) (by kernel_rfl) (by kernel_rfl) (e := Extern.SlicesOverlaps.overlaps #[49, 49] #[4]) (by kernel_rfl),
          Lib.run_overlaps_apart W 49 4 69 hu 3 (fun w => by simp [sizeOf, typeInfo, hq, hqs]) ⟨g2, 0, none⟩ ⟨g, 0 + (i + 1) * 3, none⟩ 1 1 _ _ (fun e => hne' e.symm) 69 69 news.length cs.length (by simp [World.shape?, hg2w]) (by simp [World.shape?, hgw]) (by omega) (by simp [World.frozen?, hg2w]) (by simp [World.frozen?, hg2w])]
        rfl
      refine Sy.st_extern T hov (by exact rfl) (by exact rfl) ?_; (clear T hov; intro ac T)
      repeat (first
    | (((with_reducible refine Sy.is_op ?_); refine Sy.st_pure T (h := ?_); clear T; intro ac T))
    | ((with_reducible refine Sy.is_cond ?_); (refine Sy.st_true T (h := ?_)))
    | (with_reducible refine wpList_nil ?_)
    | ((with_reducible refine wp_seq_k ?_); intro _ _)
    | (go_at_K; go_step)
    | (simp only [Exit.then, Exit.inBlock, ↓reduceIte, Nat.reduceEqDiff]))
      refine Sy.sx_region F [g] (.t 0 (.t 1 (.t 2 (.t 3 (.t 4 (.t 5 (.t 6 (.t 7 (.h 8 .e))))))))) [] (by kernel_rfl) ?_; (clear F; intro w F)
      repeat (((refine Sy.sx_plain (h := ?_)); ((refine Sy.sx_pure T (h := ?_); clear T; intro ac T)); show Sy.wpUx _ _ _ _ _ _ _ _ _))
      refine Sy.sx_plain rfl rfl (Sy.sx_val (fun w' _ => Sy.runs_sliceLa T (show i + 1 ≤ k + 1 by omega) (show cap ≠ i + 1 by omega) (by exact rfl) (by exact rfl) (by exact rfl) (by exact rfl) (by exact rfl) (by exact rfl)) T rfl ?_); (clear T; intro ac T); show Sy.wpUx _ _ _ _ _ _ _ _ _
      repeat (((refine Sy.sx_plain (h := ?_)); ((refine Sy.sx_pure T (h := ?_); clear T; intro ac T)); show Sy.wpUx _ _ _ _ _ _ _ _ _))
      refine Sy.sx_plain rfl rfl (Sy.sx_val (fun w' _ => Sy.runs_sliceLa T (show i ≤ k + 1 by omega) (show cap ≠ i by omega) (by exact rfl) (by exact rfl) (by exact rfl) (by exact rfl) (by exact rfl) (by exact rfl)) T rfl ?_); (clear T; intro ac T); show Sy.wpUx _ _ _ _ _ _ _ _ _
      skip
      have hgc : ∀ j v, cs[j]? = some v → w.cell? ⟨g, j, none⟩ = some v := fun j v hj => by
        have := F.get Sy.Take.here
        simp [World.cell?, this, hj]
      have hMl : ((cs.drop (i * 3)).take (k * 3 - i * 3)).length = k * 3 - i * 3 := by simp; omega
      refine Sy.sx_copyB rfl T F Sy.Take.here (by simp) (news := (cs.drop (i * 3)).take (k * 3 - i * 3)) ?_ (fun j v hj => ?_) ?_ ?_ (h := ?_)
      · show _ = min (k + 1 - i) (k + 1 - (i + 1)) * 3
        rw [Nat.min_eq_right (by omega : k + 1 - (i + 1) ≤ k + 1 - i), hMl]; omega
      · rw [addr_add]
        rw [List.getElem?_take] at hj
        split at hj
        · exact hgc _ _ (by rw [List.getElem?_drop] at hj; simpa using hj)
        · cases hj
      · rw [hMl]; omega
      · intro u hu
        refine hone1 u ?_
        rw [← List.drop_take] at hu
        exact List.mem_of_mem_drop hu
      clear T F hgc; intro ac w T F
      repeat (first
    | (((with_reducible refine Sy.is_op ?_); refine Sy.st_pure T (h := ?_); clear T; intro ac T))
    | (with_reducible refine wp_region_lit ?_)
    | ((with_reducible refine wp_seq_k ?_); intro _ _)
    | (go_at_K; go_step)
    | (simp only [Exit.then, Exit.inBlock, ↓reduceIte, Nat.reduceEqDiff])
    | (with_reducible refine Sy.sx_nil ?_)
    | (with_reducible refine Sy.sx_end ?_))
      refine Sy.st_val (Sy.runs_sliceLa T (show i ≤ k + 1 by omega) (show cap ≠ i by omega) (by exact rfl) (by exact rfl) (by exact rfl) (by exact rfl) (by exact rfl) (by exact rfl)) T (by exact rfl) ?_; (clear T; intro ac T)
      repeat ((((with_reducible refine Sy.is_op ?_); refine Sy.st_pure T (h := ?_); clear T; intro ac T)))
      refine Sy.st_copyB T F Sy.Take.here (news := news) ?_ (fun j v hj => F.sub _ _ (hcm j v hj)) ?_ hone2 (h := ?_)
      · show news.length = min 1 (k + 1 - i) * 3
        rw [Nat.min_eq_left (by omega : (1 : Nat) ≤ k + 1 - i)]; omega
      · rw [Sy.putL_len (by rw [hMl]; omega)]; omega
      clear T F; intro ac w T F
      repeat (first
    | (((with_reducible refine Sy.is_op ?_); refine Sy.st_pure T (h := ?_); clear T; intro ac T))
    | (with_reducible refine wpList_nil ?_)
    | (with_reducible refine wp_region_lit ?_)
    | (with_reducible refine wp_ret ?_)
    | ((with_reducible refine wp_seq_k ?_); intro _ _)
    | (go_at_K; go_step)
    | (simp only [Exit.then, Exit.inBlock, ↓reduceIte, Nat.reduceEqDiff]))
      ((try simp only [Exit.inBlock, Exit.then]); refine Sy.st_ret1 T F rfl (by repeat (first | exact Sy.ResV.nil | apply Sy.ResV.tmp rfl | apply Sy.ResV.row rfl rfl rfl (by repeat (first | exact Sy.Take.here | apply Sy.Take.there)) (by rfl) | apply Sy.ResV.one rfl rfl rfl (by repeat (first | exact Sy.Take.here | apply Sy.Take.there)) (by rfl))) ?_)
      have e1 := Sy.ins_shift (cs := cs) (news := news) (A := i * 3) (B := k * 3) (s := 3) (by omega) (by omega) hnl
      have e2 : xs = cs.take (k * 3) := htk.symm
      have e3 : 0 + i * 3 = i * 3 := by omega
      have e4 : 0 + (i + 1) * 3 = i * 3 + 3 := by omega
      have e5 : k * 3 + 3 = (k + 1) * 3 := by omega
      rw [e3, e4] at F
      rw [e2, ← e1, e5]
      refine (F.closeSl ?_ (show k + 1 ≤ cap by omega) hcapM rfl).retO
      rw [Sy.putL_len, Sy.putL_len]
      · exact hcl
      · rw [hMl]; omega
      · rw [Sy.putL_len (by rw [hMl]; omega)]; omega

end Ins
end Go.Proofs.Ytdpmfjbhadapiaa
namespace Go.Proofs.Ytdpmfjbhadapiaa
open Go.RowKit
set_option linter.unusedVariables false
set_option linter.unusedSimpArgs false
namespace Ins
open Sy (RetV RetM Sub RetO RetN)
open Rg (eqT eqF i64_wrap)

set_option maxRecDepth 20000 in
set_option maxHeartbeats 1000000 in
theorem insertD (W : World) {ad : Option Addr} {cap k : Nat} {xs : List Value} (h : Own W 0 96 6 (.slice ad k cap) k xs) (hone : ∀ u ∈ xs, u.oneCell' = true) (i : Nat) (hi : i ≤ k) {g2 : Nat} {news : List Value} (hnl : news.length = 6) (hone2 : ∀ u ∈ news, u.oneCell' = true)
    (hne : blk (.slice ad k cap) ≠ some g2) (hg2 : W.heap[g2]? = some (.cells news.toArray 96 (0, 0))) (hsmall : (k + 1) * 64 ≤ 140737488355328) :
    Calls Try.prog 85 #[.slice ad k cap, .int .i64 (i : Int), .slice (some ⟨g2, 0, none⟩) 1 1] W (RetO W (.slice ad k cap) 96 6 (k + 1) (xs.take (i * 6) ++ news ++ xs.drop (i * 6))) := by
  obtain ⟨m, hm, hmW, F⟩ := Sy.Own.startO h
  have hxl : xs.length = k * 6 := by
    obtain ⟨_, _, _, hl, _⟩ := h
    exact hl
  have hcm : ∀ j v, news[j]? = some v → m.cell? ((⟨g2, 0, none⟩ : Addr).add j) = some v := fun j v hj => by
    rw [addr_add, hm _ hne]
    simp [World.cell?, hg2, hj]
  have hcells : Cells m (some ⟨g2, 0, none⟩) news := .inr ⟨g2, 0, rfl, fun j hj => by
    have := hcm j _ (List.getElem?_eq_getElem hj)
    rwa [addr_add] at this⟩
  have hcapM : cap ≤ maxLen := by
    obtain ⟨_, _, hv, _, _, hM, _⟩ := h
    simp at hv
    rw [hv.2]; exact hM
  have hkc : k ≤ cap := by
    obtain ⟨_, _, hv, _, hn, _⟩ := h
    simp at hv
    rw [hv.2]; exact hn
  have hM := hcapM
  unfold maxLen at hM
  refine Sy.enter Try.func85 rfl Try.ntmps85 rfl ?_; intro ac T; simp only [Sy.enum, Nat.zero_add, Nat.reduceAdd] at T
  repeat (first
    | (((with_reducible refine Sy.is_op ?_); refine Sy.st_pure T (h := ?_); clear T; intro ac T))
    | (with_reducible refine wpList_nil ?_)
    | (with_reducible refine wp_region_lit ?_)
    | ((with_reducible refine wp_seq_k ?_); intro _ _)
    | (go_at_K; go_step)
    | (simp only [Exit.then, Exit.inBlock, ↓reduceIte, Nat.reduceEqDiff]))
  refine Sy.st_val (Sy.runs_sliceL T (by exact rfl) (by exact rfl) hi (by exact rfl) (by exact rfl) (by exact rfl) (by exact rfl)) T (by exact rfl) ?_; (clear T; intro ac T)
  by_cases hik : i = k
  · subst hik
    have t1 := eqT (a := (i : Int)) (b := (i : Int)) rfl
    repeat (first
    | (((with_reducible refine Sy.is_op ?_); refine Sy.st_pure T (h := ?_); clear T; intro ac T))
    | ((with_reducible refine Sy.is_cond ?_); (first
    | refine Sy.st_true T (h := ?_)
    | refine Sy.st_false T (h := ?_)))
    | (with_reducible refine wpList_nil ?_)
    | (with_reducible refine wp_region_lit ?_)
    | (with_reducible refine wp_skip ?_)
    | ((with_reducible refine wp_seq_k ?_); intro _ _)
    | (go_at_K; go_step)
    | (simp only [Exit.then, Exit.inBlock, ↓reduceIte, Nat.reduceEqDiff]))
    refine Sy.st_appendC T F (k2 := 1) (news := news) (Sy.cells_sub hcells F.sub) (by omega) hone2 (hbytes := by simpa using hsmall) (h := ?_); (clear T F; intro ad' cap' ac w T F)
    repeat (first
    | (((with_reducible refine Sy.is_op ?_); refine Sy.st_pure T (h := ?_); clear T; intro ac T))
    | (with_reducible refine wpList_nil ?_)
    | (with_reducible refine wp_ret ?_)
    | (go_at_K; go_step)
    | (simp only [Exit.then, Exit.inBlock, ↓reduceIte, Nat.reduceEqDiff]))
    ((try simp only [Exit.inBlock, Exit.then]); refine Sy.st_ret1 T F rfl (by repeat (first | exact Sy.ResV.nil | apply Sy.ResV.tmp rfl | apply Sy.ResV.row rfl rfl rfl (by repeat (first | exact Sy.Take.here | apply Sy.Take.there)) (by rfl) | apply Sy.ResV.one rfl rfl rfl (by repeat (first | exact Sy.Take.here | apply Sy.Take.there)) (by rfl))) ?_)
    have e1 : xs.take (i * 6) ++ news ++ xs.drop (i * 6) = xs ++ news := by rw [List.take_of_length_le (by omega), List.drop_of_length_le (by omega), List.append_nil]
    rw [e1]
    exact F.retO
  · have hlt : i < k := by omega
    have t1 := eqF (a := (i : Int)) (b := (k : Int)) (by omega)
    have wk : IntKind.i64.wrap ((k : Int) + ((1 : Nat) : Int)) = ((k + 1 : Nat) : Int) := by rw [i64_wrap (by omega) (by omega)]; omega
    have wi : IntKind.i64.wrap ((i : Int) + ((1 : Nat) : Int)) = ((i + 1 : Nat) : Int) := by rw [i64_wrap (by omega) (by omega)]; omega
    have wd : IntKind.i64.wrap (((k + 1 : Nat) : Int) - (i : Int)) = ((k + 1 - i : Nat) : Int) := by rw [i64_wrap (by omega) (by omega)]; omega
    obtain ⟨g, cs, rfl, _, hcl, _, _, htk, _, F⟩ := F.openSl (show cap ≠ 0 by omega)
    have hne' : g ≠ g2 := fun e => hne (by rw [Sy.blk_of (cap := cap) (show cap ≠ 0 by omega) rfl, e])
    have hcsl : k * 6 ≤ cs.length := by rw [hcl]; exact Nat.mul_le_mul_right _ hkc
    have hone1 : ∀ u ∈ cs.take (k * 6), u.oneCell' = true := fun u hu => hone u (by rw [← htk]; exact hu)
    by_cases hroom : cap < k + 1
    · have hck : cap = k := by omega
      subst hck
      have t2 : decide (((cap + 1 : Nat) : Int) > (cap : Int)) = true := decide_eq_true (by omega)
      repeat (first
    | (((with_reducible refine Sy.is_op ?_); refine Sy.st_pure T (h := ?_); clear T; intro ac T))
    | ((with_reducible refine Sy.is_cond ?_); (refine Sy.st_false T (h := ?_)))
    | (with_reducible refine wpList_nil ?_)
    | (with_reducible refine wp_region_lit ?_)
    | (with_reducible refine wp_skip ?_)
    | ((with_reducible refine wp_seq_k ?_); intro _ _)
    | (go_at_K; go_step)
    | (simp only [Exit.then, Exit.inBlock, ↓reduceIte, Nat.reduceEqDiff]))
      refine Sy.st_val (Sy.runs_cap T (by exact rfl) (by exact rfl) (by exact rfl)) T (by exact rfl) ?_; (clear T; intro ac T)
      repeat (first
    | (((with_reducible refine Sy.is_op ?_); refine Sy.st_pure T (h := ?_); clear T; intro ac T))
    | ((with_reducible refine Sy.is_cond ?_); (refine Sy.st_true T (h := ?_)))
    | (with_reducible refine wpList_nil ?_)
    | (with_reducible refine wp_region_lit ?_)
    | ((with_reducible refine wp_seq_k ?_); intro _ _)
    | (go_at_K; go_step)
    | (simp only [Exit.then, Exit.inBlock, ↓reduceIte, Nat.reduceEqDiff]))
      refine Sy.st_val (Sy.runs_sliceHa T (show i ≤ cap by omega) (by exact rfl) (by exact rfl) (by exact rfl) (by exact rfl) (by exact rfl) (by exact rfl)) T (by exact rfl) ?_; (clear T; intro ac T)
      repeat ((((with_reducible refine Sy.is_op ?_); refine Sy.st_pure T (h := ?_); clear T; intro ac T)))
      have hgc : ∀ j v, cs[j]? = some v → W.cell? ⟨g, j, none⟩ = some v := fun j v hj => by
        have := F.get Sy.Take.here
        simp [World.cell?, this, hj]
      refine Sy.st_appMake T F (k := i) (cap := cap) (k2 := cap + 1 - i) (s := 6) (olds := cs.take (i * 6)) (by simp; omega) (fun j v hj => ?_) (by omega) (by omega) (hbytes := ?_) (h := ?_)
      · rw [addr_add, Nat.zero_add]
        exact hgc j v (by rw [List.getElem?_take] at hj; split at hj; exact hj; cases hj)
      · show (i + (cap + 1 - i)) * 64 ≤ 140737488355328; omega
      clear T F hgc; intro g3 cap' tl ac w hc1 hc2 htl T F
      rw [show i + (cap + 1 - i) = cap + 1 by omega] at hc1 T
      repeat (first
    | (((with_reducible refine Sy.is_op ?_); refine Sy.st_pure T (h := ?_); clear T; intro ac T))
    | (with_reducible refine wpList_nil ?_)
    | (with_reducible refine wp_region_lit ?_)
    | ((with_reducible refine wp_seq_k ?_); intro _ _)
    | (go_at_K; go_step)
    | (simp only [Exit.then, Exit.inBlock, ↓reduceIte, Nat.reduceEqDiff]))
      refine Sy.st_val (Sy.runs_sliceLa T (show i ≤ cap + 1 by omega) (show cap' ≠ i by omega) (by exact rfl) (by exact rfl) (by exact rfl) (by exact rfl) (by exact rfl) (by exact rfl)) T (by exact rfl) ?_; (clear T; intro ac T)
      repeat ((((with_reducible refine Sy.is_op ?_); refine Sy.st_pure T (h := ?_); clear T; intro ac T)))
      have htl2 : 6 + (cap * 6 - i * 6) ≤ tl.length := by
        rw [htl]
        have h1 : (cap + 1 - i) * 6 ≤ (cap' - i) * 6 := Nat.mul_le_mul_right _ (by omega)
        omega
      refine Sy.st_copyB T F Sy.Take.here (news := news) ?_ (fun j v hj => F.sub _ _ (hcm j v hj)) ?_ hone2 (h := ?_)
      · show news.length = min 1 (cap + 1 - i) * 6
        rw [Nat.min_eq_left (by omega : (1 : Nat) ≤ cap + 1 - i)]; omega
      · simp; omega
      clear T F; intro ac w T F
      repeat (first
    | (with_reducible refine wpList_nil ?_)
    | ((with_reducible refine wp_seq_k ?_); intro _ _)
    | (go_at_K; go_step)
    | (simp only [Exit.then, Exit.inBlock, ↓reduceIte, Nat.reduceEqDiff]))
      refine Sy.sx_region F [g3] (.t 0 (.t 1 (.t 2 (.t 3 (.t 4 (.t 5 (.t 6 (.t 7 (.h 8 .e))))))))) [] (by kernel_rfl) ?_; (clear F; intro w F)
      repeat (((refine Sy.sx_plain (h := ?_)); ((refine Sy.sx_pure T (h := ?_); clear T; intro ac T)); show Sy.wpUx _ _ _ _ _ _ _ _ _))
      refine Sy.sx_plain rfl rfl (Sy.sx_val (fun w' _ => Sy.runs_sliceLa T (show i + 1 ≤ cap + 1 by omega) (show cap' ≠ i + 1 by omega) (by exact rfl) (by exact rfl) (by exact rfl) (by exact rfl) (by exact rfl) (by exact rfl)) T rfl ?_); (clear T; intro ac T); show Sy.wpUx _ _ _ _ _ _ _ _ _
      repeat (((refine Sy.sx_plain (h := ?_)); ((refine Sy.sx_pure T (h := ?_); clear T; intro ac T)); show Sy.wpUx _ _ _ _ _ _ _ _ _))
      refine Sy.sx_plain rfl rfl (Sy.sx_val (fun w' _ => Sy.runs_sliceLa T (show i ≤ cap by omega) (show cap ≠ i by omega) (by exact rfl) (by exact rfl) (by exact rfl) (by exact rfl) (by exact rfl) (by exact rfl)) T rfl ?_); (clear T; intro ac T); show Sy.wpUx _ _ _ _ _ _ _ _ _
      skip
      have hgc : ∀ j v, cs[j]? = some v → w.cell? ⟨g, j, none⟩ = some v := fun j v hj => by
        have := F.get (Sy.Take.there Sy.Take.here)
        simp [World.cell?, this, hj]
      refine Sy.sx_copyB rfl T F Sy.Take.here (by simp) (news := cs.drop (i * 6)) ?_ (fun j v hj => ?_) ?_ ?_ (h := ?_)
      · show (cs.drop (i * 6)).length = min (cap - i) (cap + 1 - (i + 1)) * 6
        rw [Nat.min_eq_left (by omega : cap - i ≤ cap + 1 - (i + 1)), List.length_drop]; omega
      · rw [addr_add]
        exact hgc _ _ (by rw [List.getElem?_drop] at hj; simpa using hj)
      · rw [Sy.putL_len (by simp; omega), List.length_drop]; simp; omega
      · intro u hu
        refine hone1 u ?_
        rw [List.take_of_length_le (by omega)]
        exact List.mem_of_mem_drop hu
      clear T F hgc; intro ac w T F
      repeat (first
    | (((with_reducible refine Sy.is_op ?_); refine Sy.st_pure T (h := ?_); clear T; intro ac T))
    | (with_reducible refine wpList_nil ?_)
    | (with_reducible refine wp_region_lit ?_)
    | (with_reducible refine wp_ret ?_)
    | ((with_reducible refine wp_seq_k ?_); intro _ _)
    | (go_at_K; go_step)
    | (simp only [Exit.then, Exit.inBlock, ↓reduceIte, Nat.reduceEqDiff])
    | (with_reducible refine Sy.sx_nil ?_)
    | (with_reducible refine Sy.sx_end ?_))
      ((try simp only [Exit.inBlock, Exit.then]); refine Sy.st_ret1 T F rfl (by repeat (first | exact Sy.ResV.nil | apply Sy.ResV.tmp rfl | apply Sy.ResV.row rfl rfl rfl (by repeat (first | exact Sy.Take.here | apply Sy.Take.there)) (by rfl) | apply Sy.ResV.one rfl rfl rfl (by repeat (first | exact Sy.Take.here | apply Sy.Take.there)) (by rfl))) ?_)
      have e1 := Sy.ins_grow (cs := cs) (tl := tl) (news := news) (A := i * 6) (B := cap * 6) (s := 6) (by omega) hcl hnl htl2
      have e2 : xs = cs := by rw [← htk, List.take_of_length_le (by omega)]
      rw [e2, ← e1]
      have e3 : 0 + i * 6 = i * 6 := by omega
      have e4 : 0 + (i + 1) * 6 = i * 6 + 6 := by omega
      have e5 : cap * 6 + 6 = (cap + 1) * 6 := by omega
      rw [e3, e4] at F
      rw [e5]
      refine (F.closeSl ?_ hc1 hc2 rfl).retO
      rw [Sy.putL_len, Sy.putL_len]
      · have : (cap' - i) * 6 = cap' * 6 - i * 6 := Nat.sub_mul ..
        have : i * 6 ≤ cap' * 6 := Nat.mul_le_mul_right _ (by omega)
        simp; omega
      · simp; omega
      · rw [Sy.putL_len (by simp; omega)]; simp; omega
    · have t2 : decide (((k + 1 : Nat) : Int) > (cap : Int)) = false := decide_eq_false (by omega)
      have hcs2 : (k + 1) * 6 ≤ cs.length := by rw [hcl]; exact Nat.mul_le_mul_right _ (by omega)
      repeat (first
    | (((with_reducible refine Sy.is_op ?_); refine Sy.st_pure T (h := ?_); clear T; intro ac T))
    | ((with_reducible refine Sy.is_cond ?_); (refine Sy.st_false T (h := ?_)))
    | (with_reducible refine wpList_nil ?_)
    | (with_reducible refine wp_region_lit ?_)
    | (with_reducible refine wp_skip ?_)
    | ((with_reducible refine wp_seq_k ?_); intro _ _)
    | (go_at_K; go_step)
    | (simp only [Exit.then, Exit.inBlock, ↓reduceIte, Nat.reduceEqDiff]))
      refine Sy.st_val (Sy.runs_cap T (by exact rfl) (by exact rfl) (by exact rfl)) T (by exact rfl) ?_; (clear T; intro ac T)
      repeat (first
    | (((with_reducible refine Sy.is_op ?_); refine Sy.st_pure T (h := ?_); clear T; intro ac T))
    | ((with_reducible refine Sy.is_cond ?_); (refine Sy.st_false T (h := ?_)))
    | (with_reducible refine wpList_nil ?_)
    | (with_reducible refine wp_region_lit ?_)
    | (with_reducible refine wp_skip ?_)
    | ((with_reducible refine wp_seq_k ?_); intro _ _)
    | (go_at_K; go_step)
    | (simp only [Exit.then, Exit.inBlock, ↓reduceIte, Nat.reduceEqDiff]))
      refine Sy.st_val (Sy.runs_sliceHa T (show k + 1 ≤ cap by omega) (by exact rfl) (by exact rfl) (by exact rfl) (by exact rfl) (by exact rfl) (by exact rfl)) T (by exact rfl) ?_; (clear T; intro ac T)
      repeat (first
    | (((with_reducible refine Sy.is_op ?_); refine Sy.st_pure T (h := ?_); clear T; intro ac T))
    | (with_reducible refine wpList_nil ?_)
    | (with_reducible refine wp_region_lit ?_)
    | ((with_reducible refine wp_seq_k ?_); intro _ _)
    | (go_at_K; go_step)
    | (simp only [Exit.then, Exit.inBlock, ↓reduceIte, Nat.reduceEqDiff]))
      refine Sy.st_val (Sy.runs_sliceLa T (show i + 1 ≤ k + 1 by omega) (show cap ≠ i + 1 by omega) (by exact rfl) (by exact rfl) (by exact rfl) (by exact rfl) (by exact rfl) (by exact rfl)) T (by exact rfl) ?_; (clear T; intro ac T)
      have hov : (callFunc 111 #[.slice (some ⟨g2, 0, none⟩) 1 1, .slice (some ⟨g, 0 + (i + 1) * 6, none⟩) (k + 1 - (i + 1)) (cap - (i + 1))]).run Try.prog W = .ok (.value (.bool false)) W := by
        have hgw := F.get Sy.Take.here
        have hg2w := hg2
        obtain ⟨hu, q, hq, hqs⟩ := Sy.slice_ty (P := Try.prog) (tab := Sy.tab) (fl := Sy.fl) (t := 48) (e := 96) (s := 6) (by exact rfl) (by exact rfl) (by exact rfl) (by exact rfl)
        rw [run_callFunc_extern Try.func111 (by kernel_rfl) (by kernel_rfl) (by kernel_rfl) (e := Extern.SlicesOverlaps.overlaps #[48, 48] #[4]) (by kernel_rfl),
          Lib.run_overlaps_apart W 48 4 96 hu 6 (fun w => by simp [sizeOf, typeInfo, hq, hqs]) ⟨g2, 0, none⟩ ⟨g, 0 + (i + 1) * 6, none⟩ 1 1 _ _ (fun e => hne' e.symm) 96 96 news.length cs.length (by simp [World.shape?, hg2w]) (by simp [World.shape?, hgw]) (by omega) (by simp [World.frozen?, hg2w]) (by simp [World.frozen?, hg2w])]
        rfl
      refine Sy.st_extern T hov (by exact rfl) (by exact rfl) ?_; (clear T hov; intro ac T)
      repeat (first
    | (((with_reducible refine Sy.is_op ?_); refine Sy.st_pure T (h := ?_); clear T; intro ac T))
    | ((with_reducible refine Sy.is_cond ?_); (refine Sy.st_true T (h := ?_)))
    | (with_reducible refine wpList_nil ?_)
    | ((with_reducible refine wp_seq_k ?_); intro _ _)
    | (go_at_K; go_step)
    | (simp only [Exit.then, Exit.inBlock, ↓reduceIte, Nat.reduceEqDiff]))
      refine Sy.sx_region F [g] (.t 0 (.t 1 (.t 2 (.t 3 (.t 4 (.t 5 (.t 6 (.t 7 (.h 8 .e))))))))) [] (by kernel_rfl) ?_; (clear F; intro w F)
      repeat (((refine Sy.sx_plain (h := ?_)); ((refine Sy.sx_pure T (h := ?_); clear T; intro ac T)); show Sy.wpUx _ _ _ _ _ _ _ _ _))
      refine Sy.sx_plain rfl rfl (Sy.sx_val (fun w' _ => Sy.runs_sliceLa T (show i + 1 ≤ k + 1 by omega) (show cap ≠ i + 1 by omega) (by exact rfl) (by exact rfl) (by exact rfl) (by exact rfl) (by exact rfl) (by exact rfl)) T rfl ?_); (clear T; intro ac T); show Sy.wpUx _ _ _ _ _ _ _ _ _
      repeat (((refine Sy.sx_plain (h := ?_)); ((refine Sy.sx_pure T (h := ?_); clear T; intro ac T)); show Sy.wpUx _ _ _ _ _ _ _ _ _))
      refine Sy.sx_plain rfl rfl (Sy.sx_val (fun w' _ => Sy.runs_sliceLa T (show i ≤ k + 1 by omega) (show cap ≠ i by omega) (by exact rfl) (by exact rfl) (by exact rfl) (by exact rfl) (by exact rfl) (by exact rfl)) T rfl ?_); (clear T; intro ac T); show Sy.wpUx _ _ _ _ _ _ _ _ _
      skip
      have hgc : ∀ j v, cs[j]? = some v → w.cell? ⟨g, j, none⟩ = some v := fun j v hj => by
        have := F.get Sy.Take.here
        simp [World.cell?, this, hj]
      have hMl : ((cs.drop (i * 6)).take (k * 6 - i * 6)).length = k * 6 - i * 6 := by simp; omega
      refine Sy.sx_copyB rfl T F Sy.Take.here (by simp) (news := (cs.drop (i * 6)).take (k * 6 - i * 6)) ?_ (fun j v hj => ?_) ?_ ?_ (h := ?_)
      · show _ = min (k + 1 - i) (k + 1 - (i + 1)) * 6
        rw [Nat.min_eq_right (by omega : k + 1 - (i + 1) ≤ k + 1 - i), hMl]; omega
      · rw [addr_add]
        rw [List.getElem?_take] at hj
        split at hj
        · exact hgc _ _ (by rw [List.getElem?_drop] at hj; simpa using hj)
        · cases hj
      · rw [hMl]; omega
      · intro u hu
        refine hone1 u ?_
        rw [← List.drop_take] at hu
        exact List.mem_of_mem_drop hu
      clear T F hgc; intro ac w T F
      repeat (first
    | (((with_reducible refine Sy.is_op ?_); refine Sy.st_pure T (h := ?_); clear T; intro ac T))
    | (with_reducible refine wp_region_lit ?_)
    | ((with_reducible refine wp_seq_k ?_); intro _ _)
    | (go_at_K; go_step)
    | (simp only [Exit.then, Exit.inBlock, ↓reduceIte, Nat.reduceEqDiff])
    | (with_reducible refine Sy.sx_nil ?_)
    | (with_reducible refine Sy.sx_end ?_))
      refine Sy.st_val (Sy.runs_sliceLa T (show i ≤ k + 1 by omega) (show cap ≠ i by omega) (by exact rfl) (by exact rfl) (by exact rfl) (by exact rfl) (by exact rfl) (by exact rfl)) T (by exact rfl) ?_; (clear T; intro ac T)
      repeat ((((with_reducible refine Sy.is_op ?_); refine Sy.st_pure T (h := ?_); clear T; intro ac T)))
      refine Sy.st_copyB T F Sy.Take.here (news := news) ?_ (fun j v hj => F.sub _ _ (hcm j v hj)) ?_ hone2 (h := ?_)
      · show news.length = min 1 (k + 1 - i) * 6
        rw [Nat.min_eq_left (by omega : (1 : Nat) ≤ k + 1 - i)]; omega
      · rw [Sy.putL_len (by rw [hMl]; omega)]; omega
      clear T F; intro ac w T F
      repeat (first
    | (((with_reducible refine Sy.is_op ?_); refine Sy.st_pure T (h := ?_); clear T; intro ac T))
    | (with_reducible refine wpList_nil ?_)
    | (with_reducible refine wp_region_lit ?_)
    | (with_reducible refine wp_ret ?_)
    | ((with_reducible refine wp_seq_k ?_); intro _ _)
    | (go_at_K; go_step)
    | (simp only [Exit.then, Exit.inBlock, ↓reduceIte, Nat.reduceEqDiff]))
      ((try simp only [Exit.inBlock, Exit.then]); refine Sy.st_ret1 T F rfl (by repeat (first | exact Sy.ResV.nil | apply Sy.ResV.tmp rfl | apply Sy.ResV.row rfl rfl rfl (by repeat (first | exact Sy.Take.here | apply Sy.Take.there)) (by rfl) | apply Sy.ResV.one rfl rfl rfl (by repeat (first | exact Sy.Take.here | apply Sy.Take.there)) (by rfl))) ?_)
      have e1 := Sy.ins_shift (cs := cs) (news := news) (A := i * 6) (B := k * 6) (s := 6) (by omega) (by omega) hnl
      have e2 : xs = cs.take (k * 6) := htk.symm
      have e3 : 0 + i * 6 = i * 6 := by omega
      have e4 : 0 + (i + 1) * 6 = i * 6 + 6 := by omega
      have e5 : k * 6 + 6 = (k + 1) * 6 := by omega
      rw [e3, e4] at F
      rw [e2, ← e1, e5]
      refine (F.closeSl ?_ (show k + 1 ≤ cap by omega) hcapM rfl).retO
      rw [Sy.putL_len, Sy.putL_len]
      · exact hcl
      · rw [hMl]; omega
      · rw [Sy.putL_len (by rw [hMl]; omega)]; omega

end Ins
end Go.Proofs.Ytdpmfjbhadapiaa
