/- slices.IndexFunc, ContainsFunc and reg.rises at a register's lists, with the closure's contract as a hypothesis. Conditions: the lists can be read. Printed by a program (genidx.py). -/
import Derived.Test.YtniopkoaplkpkaaRowS
namespace Go.Proofs.Ytniopkoaplkpkaa
open Go.RowKit
set_option linter.unusedVariables false
set_option linter.unusedSimpArgs false
namespace Rg
open Sy (RetV RetM Sub)
/-- what rises tells -/
def risesS {α : Type} (num : α → Nat) : List α → Nat → Bool
  | [], _ => true
  | x :: r, b => if num x < b then false else risesS num r ((num x + 1) % 18446744073709551616)
theorem drop_cons {α : Type} {l : List α} {k : Nat} (h : k < l.length) : l.drop k = l[k] :: l.drop (k + 1) := List.drop_eq_getElem_cons h

set_option maxRecDepth 20000 in
theorem indexDone (w : World) {a : Option Addr} {cap : Nat} {l : List DoneD} (h : Dones w a l) {f : FuncId} {ks : List Value} {p : DoneD → Bool} (hfl : Sy.fl.contains f = true) (hc : ClosB DoneR w f ks l p) :
    Calls Try.prog 137 #[.slice a l.length cap, .func (.func f) #[] ks.toArray] w (RetV w (.int .i64 (idxS p l))) := by
  have F := Sy.Mem.start (Sub.refl w)
  have hml := h.1
  unfold maxLen at hml
  refine Sy.enter Try.func137 rfl Try.ntmps137 rfl ?_; intro ac T; simp only [Sy.enum, Nat.zero_add, Nat.reduceAdd] at T
  repeat (first
    | (((with_reducible refine Sy.is_op ?_); refine Sy.st_pure T (h := ?_); clear T; intro ac T))
    | (with_reducible refine wpList_nil ?_)
    | (with_reducible refine wp_region_lit ?_)
    | (with_reducible refine wp_block ?_)
    | ((with_reducible refine wp_seq_k ?_); intro _ _)
    | (go_at_K; go_step)
    | (simp only [Exit.then, Exit.inBlock, ↓reduceIte, Nat.reduceEqDiff]))
  refine wp_loop_ghost_k (fun i ac w' => ∃ (k : Nat), i = l.length - k ∧ k ≤ l.length ∧ (l.take k).any p = false ∧
    Sy.Tm ac 19 [(0, .slice a l.length cap), (1, .func (.func f) #[] ks.toArray), (7, .int .i64 (l.length : Int)), (8, .int .i64 (k : Int))] ∧ Sy.Mem ⟨w, [], w⟩ w [] w') l.length ?_ ?_
  · exact ⟨0, rfl, Nat.zero_le _, rfl, (T.part (by repeat (first | exact Sy.Part.nil | apply Sy.Part.cons rfl))), F⟩
  intro i ac w' hI J K hJ hK
  obtain ⟨k, rfl, hk, hn, T, F⟩ := hI
  by_cases hlt : k < l.length
  · have t1 : decide ((k : Int) < (l.length : Int)) = true := decide_eq_true (by omega)
    have t2 : IntKind.i64.wrap ((k : Int) + 1) = ((k + 1 : Nat) : Int) := by rw [i64_wrap (by omega) (by omega)]; omega
    obtain ⟨b, o, cs, ha, hcl, hat, hr⟩ := rows_get h hlt
    subst ha
    repeat (first
    | (((with_reducible refine Sy.is_load ?_); (refine Sy.st_oldAgg T F (h := ?_)); clear T; intro ac T))
    | (((with_reducible refine Sy.is_op ?_); refine Sy.st_pure T (h := ?_); clear T; intro ac T))
    | ((with_reducible refine Sy.is_cond ?_); (refine Sy.st_true T (h := ?_)))
    | (with_reducible refine wpList_nil ?_)
    | (with_reducible refine wp_region_lit ?_)
    | (with_reducible refine wp_block ?_)
    | (with_reducible refine wp_skip ?_)
    | ((with_reducible refine wp_seq_k ?_); intro _ _)
    | (go_at_K; go_step)
    | (simp only [Exit.then, Exit.inBlock, ↓reduceIte, Nat.reduceEqDiff]))
    have hcc := hc _ _ (Sub.refl _) F.sub _ (List.getElem_mem hlt) cs hr
    cases hp : p l[k]
    · rw [hp] at hcc
      refine Sy.st_callV (us := []) (ks := ks) T F (by exact rfl) hfl (by exact rfl) (by exact rfl) hcc ?_; (clear T F; intro ac w T F)
      repeat (first
    | (((with_reducible refine Sy.is_op ?_); refine Sy.st_pure T (h := ?_); clear T; intro ac T))
    | ((with_reducible refine Sy.is_cond ?_); (refine Sy.st_false T (h := ?_)))
    | (with_reducible refine wpList_nil ?_)
    | (with_reducible refine wp_region_lit ?_)
    | (with_reducible refine wp_skip ?_)
    | (go_at_K; go_step)
    | (simp only [Exit.then, Exit.inBlock, ↓reduceIte, Nat.reduceEqDiff]))
      exact Sy.handed hJ (k := l.length - (k + 1)) (by omega) ⟨k + 1, rfl, by omega, any_up hlt hn hp, (T.part (by repeat (first | exact Sy.Part.nil | apply Sy.Part.cons rfl))), F⟩
    · rw [hp] at hcc
      refine Sy.st_callV (us := []) (ks := ks) T F (by exact rfl) hfl (by exact rfl) (by exact rfl) hcc ?_; (clear T F; intro ac w T F)
      repeat (first
    | (((with_reducible refine Sy.is_op ?_); refine Sy.st_pure T (h := ?_); clear T; intro ac T))
    | ((with_reducible refine Sy.is_cond ?_); (refine Sy.st_true T (h := ?_)))
    | (with_reducible refine wpList_nil ?_)
    | (with_reducible refine wp_region_lit ?_)
    | (with_reducible refine wp_ret ?_)
    | ((with_reducible refine wp_seq_k ?_); intro _ _)
    | (go_at_K; go_step)
    | (simp only [Exit.then, Exit.inBlock, ↓reduceIte, Nat.reduceEqDiff]))
      ((try simp only [Exit.inBlock, Exit.then]); refine Sy.st_ret1 T F rfl (by repeat (first | exact Sy.ResV.nil | apply Sy.ResV.tmp rfl | apply Sy.ResV.row rfl rfl rfl (by repeat (first | exact Sy.Take.here | apply Sy.Take.there)) (by rfl) | apply Sy.ResV.one rfl rfl rfl (by repeat (first | exact Sy.Take.here | apply Sy.Take.there)) (by rfl))) ?_)
      rw [idx_some hlt hn hp]
      exact F.retV _
  · obtain rfl : k = l.length := by omega
    have t1 : decide ((l.length : Int) < (l.length : Int)) = false := decide_eq_false (by omega)
    rw [List.take_length] at hn
    repeat (first
    | (((with_reducible refine Sy.is_op ?_); refine Sy.st_pure T (h := ?_); clear T; intro ac T))
    | ((with_reducible refine Sy.is_cond ?_); (refine Sy.st_false T (h := ?_)))
    | (with_reducible refine wpList_nil ?_)
    | (with_reducible refine wp_region_lit ?_)
    | (with_reducible refine wp_exit ?_)
    | (with_reducible refine wp_ret ?_)
    | ((with_reducible refine wp_seq_k ?_); intro _ _)
    | (go_at_K; go_step)
    | (simp only [Exit.then, Exit.inBlock, ↓reduceIte, Nat.reduceEqDiff]))
    ((try simp only [Exit.inBlock, Exit.then]); refine Sy.st_ret1 T F rfl (by repeat (first | exact Sy.ResV.nil | apply Sy.ResV.tmp rfl | apply Sy.ResV.row rfl rfl rfl (by repeat (first | exact Sy.Take.here | apply Sy.Take.there)) (by rfl) | apply Sy.ResV.one rfl rfl rfl (by repeat (first | exact Sy.Take.here | apply Sy.Take.there)) (by rfl))) ?_)
    rw [idx_none hn]
    exact F.retV _
set_option maxRecDepth 20000 in
theorem containsDone (w : World) {a : Option Addr} {cap : Nat} {l : List DoneD} (h : Dones w a l) {f : FuncId} {ks : List Value} {p : DoneD → Bool} (hfl : Sy.fl.contains f = true) (hc : ClosB DoneR w f ks l p) :
    Calls Try.prog 118 #[.slice a l.length cap, .func (.func f) #[] ks.toArray] w (RetV w (.bool (l.any p))) := by
  have F := Sy.Mem.start (Sub.refl w)
  have t1 : decide (idxS p l ≥ 0) = l.any p := idx_any p l
  refine Sy.enter Try.func118 rfl Try.ntmps118 rfl ?_; intro ac T; simp only [Sy.enum, Nat.zero_add, Nat.reduceAdd] at T
  repeat (first
    | (((with_reducible refine Sy.is_op ?_); refine Sy.st_pure T (h := ?_); clear T; intro ac T))
    | (with_reducible refine wpList_nil ?_)
    | (with_reducible refine wp_region_lit ?_)
    | ((with_reducible refine wp_seq_k ?_); intro _ _)
    | (go_at_K; go_step)
    | (simp only [Exit.then, Exit.inBlock, ↓reduceIte, Nat.reduceEqDiff]))
  refine Sy.st_callV0 T F (hc := indexDone _ h hfl hc) (h := ?_); (clear T F; intro ac w T F)
  repeat (first
    | (((with_reducible refine Sy.is_op ?_); refine Sy.st_pure T (h := ?_); clear T; intro ac T))
    | (with_reducible refine wpList_nil ?_)
    | (with_reducible refine wp_ret ?_)
    | (go_at_K; go_step)
    | (simp only [Exit.then, Exit.inBlock, ↓reduceIte, Nat.reduceEqDiff]))
  ((try simp only [Exit.inBlock, Exit.then]); refine Sy.st_ret1 T F rfl (by repeat (first | exact Sy.ResV.nil | apply Sy.ResV.tmp rfl | apply Sy.ResV.row rfl rfl rfl (by repeat (first | exact Sy.Take.here | apply Sy.Take.there)) (by rfl) | apply Sy.ResV.one rfl rfl rfl (by repeat (first | exact Sy.Take.here | apply Sy.Take.there)) (by rfl))) ?_)
  exact F.retV _
set_option maxRecDepth 20000 in
theorem risesDone (w : World) {a : Option Addr} {cap : Nat} {l : List DoneD} (h : Dones w a l) {f : FuncId} {ks : List Value} {p : DoneD → Nat} (hfl : Sy.fl.contains f = true) (hc : ClosN DoneR w f ks l p) (least : Nat) :
    Calls Try.prog 121 #[.slice a l.length cap, .int .u64 (least : Int), .func (.func f) #[] ks.toArray] w (RetV w (.bool (risesS p l least))) := by
  have F := Sy.Mem.start (Sub.refl w)
  have hml := h.1
  unfold maxLen at hml
  refine Sy.enter Try.func121 rfl Try.ntmps121 rfl ?_; intro ac T; simp only [Sy.enum, Nat.zero_add, Nat.reduceAdd] at T
  repeat (first
    | (((with_reducible refine Sy.is_op ?_); refine Sy.st_pure T (h := ?_); clear T; intro ac T))
    | (with_reducible refine wpList_nil ?_)
    | (with_reducible refine wp_region_lit ?_)
    | (with_reducible refine wp_block ?_)
    | ((with_reducible refine wp_seq_k ?_); intro _ _)
    | (go_at_K; go_step)
    | (simp only [Exit.then, Exit.inBlock, ↓reduceIte, Nat.reduceEqDiff]))
  refine wp_loop_ghost_k (fun i ac w' => ∃ (k b : Nat), i = l.length - k ∧ k ≤ l.length ∧ risesS p l least = risesS p (l.drop k) b ∧
    Sy.Tm ac 25 [(1, .int .u64 (b : Int)), (2, .func (.func f) #[] ks.toArray), (10, .slice a l.length cap), (11, .int .i64 (l.length : Int)), (12, .int .i64 (k : Int))] ∧ Sy.Mem ⟨w, [], w⟩ w [] w') l.length ?_ ?_
  · exact ⟨0, least, rfl, Nat.zero_le _, rfl, (T.part (by repeat (first | exact Sy.Part.nil | apply Sy.Part.cons rfl))), F⟩
  intro i ac w' hI J K hJ hK
  obtain ⟨k, b, rfl, hk, hn, T, F⟩ := hI
  by_cases hlt : k < l.length
  · have t1 : decide ((k : Int) < (l.length : Int)) = true := decide_eq_true (by omega)
    have t2 : IntKind.i64.wrap ((k : Int) + 1) = ((k + 1 : Nat) : Int) := by rw [i64_wrap (by omega) (by omega)]; omega
    obtain ⟨bb, o, cs, ha, hcl, hat, hr⟩ := rows_get h hlt
    subst ha
    rw [drop_cons hlt] at hn
    have t3 : IntKind.u64.wrap ((p l[k] : Int) + 1) = (((p l[k] + 1) % 18446744073709551616 : Nat) : Int) := by rw [IntKind.wrap_u64]; omega
    have hone : (Value.agg cs.toArray).cells = cs.toArray := rfl
    have h1 : cs.all (·.oneCell') = true := by (have hr2 := hr; obtain ⟨q, rfl, _⟩ := hr2; rfl)
    repeat (first
    | (((with_reducible refine Sy.is_load ?_); (first
    | refine Sy.st_loadAll T F (h := ?_)
    | refine Sy.st_oldAgg T F (h := ?_)); clear T; intro ac T))
    | (((with_reducible refine Sy.is_store ?_); (refine Sy.st_storeAll T F (h := ?_)); clear T F; intro ac w T F))
    | (((with_reducible refine Sy.is_alloc ?_); refine Sy.st_alloc T F (h := ?_); clear T F; intro ac g w T F))
    | (((with_reducible refine Sy.is_op ?_); refine Sy.st_pure T (h := ?_); clear T; intro ac T))
    | ((with_reducible refine Sy.is_cond ?_); (refine Sy.st_true T (h := ?_)))
    | (with_reducible refine wpList_nil ?_)
    | (with_reducible refine wp_region_lit ?_)
    | (with_reducible refine wp_block ?_)
    | (with_reducible refine wp_skip ?_)
    | ((with_reducible refine wp_seq_k ?_); intro _ _)
    | (go_at_K; go_step)
    | (simp only [Exit.then, Exit.inBlock, ↓reduceIte, Nat.reduceEqDiff]))
    have hcc := hc _ _ (Sub.refl _) F.sub _ (List.getElem_mem hlt) cs hr
    by_cases hp : p l[k] < b
    · have t4 : decide ((p l[k] : Int) < (b : Int)) = true := decide_eq_true (by omega)
      refine Sy.st_callV (us := []) (ks := ks) T F (by exact rfl) hfl (by exact rfl) (by exact rfl) hcc ?_; (clear T F; intro ac w T F)
      repeat (first
    | (((with_reducible refine Sy.is_op ?_); refine Sy.st_pure T (h := ?_); clear T; intro ac T))
    | ((with_reducible refine Sy.is_cond ?_); (refine Sy.st_true T (h := ?_)))
    | (with_reducible refine wpList_nil ?_)
    | (with_reducible refine wp_region_lit ?_)
    | (with_reducible refine wp_ret ?_)
    | ((with_reducible refine wp_seq_k ?_); intro _ _)
    | (go_at_K; go_step)
    | (simp only [Exit.then, Exit.inBlock, ↓reduceIte, Nat.reduceEqDiff]))
      ((try simp only [Exit.inBlock, Exit.then]); refine Sy.st_ret1 T F rfl (by repeat (first | exact Sy.ResV.nil | apply Sy.ResV.tmp rfl | apply Sy.ResV.row rfl rfl rfl (by repeat (first | exact Sy.Take.here | apply Sy.Take.there)) (by rfl) | apply Sy.ResV.one rfl rfl rfl (by repeat (first | exact Sy.Take.here | apply Sy.Take.there)) (by rfl))) ?_)
      exact retBb F (by rw [hn, risesS, if_pos hp])
    · have t4 : decide ((p l[k] : Int) < (b : Int)) = false := decide_eq_false (by omega)
      refine Sy.st_callV (us := []) (ks := ks) T F (by exact rfl) hfl (by exact rfl) (by exact rfl) hcc ?_; (clear T F; intro ac w T F)
      repeat (first
    | (((with_reducible refine Sy.is_op ?_); refine Sy.st_pure T (h := ?_); clear T; intro ac T))
    | ((with_reducible refine Sy.is_cond ?_); (refine Sy.st_false T (h := ?_)))
    | (with_reducible refine wpList_nil ?_)
    | (with_reducible refine wp_region_lit ?_)
    | (with_reducible refine wp_skip ?_)
    | ((with_reducible refine wp_seq_k ?_); intro _ _)
    | (go_at_K; go_step)
    | (simp only [Exit.then, Exit.inBlock, ↓reduceIte, Nat.reduceEqDiff]))
      exact Sy.handed hJ (k := l.length - (k + 1)) (by omega) ⟨k + 1, _, rfl, by omega, by rw [hn, risesS, if_neg hp], (T.part (by repeat (first | exact Sy.Part.nil | apply Sy.Part.cons rfl))), (F.sel (by repeat (first | exact Sy.Sel.nil | apply Sy.Sel.cons (by repeat (first | exact Sy.Take.here | apply Sy.Take.there)))))⟩
  · obtain rfl : k = l.length := by omega
    have t1 : decide ((l.length : Int) < (l.length : Int)) = false := decide_eq_false (by omega)
    repeat (first
    | (((with_reducible refine Sy.is_op ?_); refine Sy.st_pure T (h := ?_); clear T; intro ac T))
    | ((with_reducible refine Sy.is_cond ?_); (refine Sy.st_false T (h := ?_)))
    | (with_reducible refine wpList_nil ?_)
    | (with_reducible refine wp_region_lit ?_)
    | (with_reducible refine wp_exit ?_)
    | (with_reducible refine wp_ret ?_)
    | ((with_reducible refine wp_seq_k ?_); intro _ _)
    | (go_at_K; go_step)
    | (simp only [Exit.then, Exit.inBlock, ↓reduceIte, Nat.reduceEqDiff]))
    ((try simp only [Exit.inBlock, Exit.then]); refine Sy.st_ret1 T F rfl (by repeat (first | exact Sy.ResV.nil | apply Sy.ResV.tmp rfl | apply Sy.ResV.row rfl rfl rfl (by repeat (first | exact Sy.Take.here | apply Sy.Take.there)) (by rfl) | apply Sy.ResV.one rfl rfl rfl (by repeat (first | exact Sy.Take.here | apply Sy.Take.there)) (by rfl))) ?_)
    exact retBb F (by rw [hn, List.drop_length]; rfl)

set_option maxRecDepth 20000 in
theorem indexCell (w : World) {a : Option Addr} {cap : Nat} {l : List CellD} (h : Cels w a l) {f : FuncId} {ks : List Value} {p : CellD → Bool} (hfl : Sy.fl.contains f = true) (hc : ClosB CellR w f ks l p) :
    Calls Try.prog 138 #[.slice a l.length cap, .func (.func f) #[] ks.toArray] w (RetV w (.int .i64 (idxS p l))) := by
  have F := Sy.Mem.start (Sub.refl w)
  have hml := h.1
  unfold maxLen at hml
  refine Sy.enter Try.func138 rfl Try.ntmps138 rfl ?_; intro ac T; simp only [Sy.enum, Nat.zero_add, Nat.reduceAdd] at T
  repeat (first
    | (((with_reducible refine Sy.is_op ?_); refine Sy.st_pure T (h := ?_); clear T; intro ac T))
    | (with_reducible refine wpList_nil ?_)
    | (with_reducible refine wp_region_lit ?_)
    | (with_reducible refine wp_block ?_)
    | ((with_reducible refine wp_seq_k ?_); intro _ _)
    | (go_at_K; go_step)
    | (simp only [Exit.then, Exit.inBlock, ↓reduceIte, Nat.reduceEqDiff]))
  refine wp_loop_ghost_k (fun i ac w' => ∃ (k : Nat), i = l.length - k ∧ k ≤ l.length ∧ (l.take k).any p = false ∧
    Sy.Tm ac 19 [(0, .slice a l.length cap), (1, .func (.func f) #[] ks.toArray), (7, .int .i64 (l.length : Int)), (8, .int .i64 (k : Int))] ∧ Sy.Mem ⟨w, [], w⟩ w [] w') l.length ?_ ?_
  · exact ⟨0, rfl, Nat.zero_le _, rfl, (T.part (by repeat (first | exact Sy.Part.nil | apply Sy.Part.cons rfl))), F⟩
  intro i ac w' hI J K hJ hK
  obtain ⟨k, rfl, hk, hn, T, F⟩ := hI
  by_cases hlt : k < l.length
  · have t1 : decide ((k : Int) < (l.length : Int)) = true := decide_eq_true (by omega)
    have t2 : IntKind.i64.wrap ((k : Int) + 1) = ((k + 1 : Nat) : Int) := by rw [i64_wrap (by omega) (by omega)]; omega
    obtain ⟨b, o, cs, ha, hcl, hat, hr⟩ := rows_get h hlt
    subst ha
    repeat (first
    | (((with_reducible refine Sy.is_load ?_); (refine Sy.st_oldAgg T F (h := ?_)); clear T; intro ac T))
    | (((with_reducible refine Sy.is_op ?_); refine Sy.st_pure T (h := ?_); clear T; intro ac T))
    | ((with_reducible refine Sy.is_cond ?_); (refine Sy.st_true T (h := ?_)))
    | (with_reducible refine wpList_nil ?_)
    | (with_reducible refine wp_region_lit ?_)
    | (with_reducible refine wp_block ?_)
    | (with_reducible refine wp_skip ?_)
    | ((with_reducible refine wp_seq_k ?_); intro _ _)
    | (go_at_K; go_step)
    | (simp only [Exit.then, Exit.inBlock, ↓reduceIte, Nat.reduceEqDiff]))
    have hcc := hc _ _ (Sub.refl _) F.sub _ (List.getElem_mem hlt) cs hr
    cases hp : p l[k]
    · rw [hp] at hcc
      refine Sy.st_callV (us := []) (ks := ks) T F (by exact rfl) hfl (by exact rfl) (by exact rfl) hcc ?_; (clear T F; intro ac w T F)
      repeat (first
    | (((with_reducible refine Sy.is_op ?_); refine Sy.st_pure T (h := ?_); clear T; intro ac T))
    | ((with_reducible refine Sy.is_cond ?_); (refine Sy.st_false T (h := ?_)))
    | (with_reducible refine wpList_nil ?_)
    | (with_reducible refine wp_region_lit ?_)
    | (with_reducible refine wp_skip ?_)
    | (go_at_K; go_step)
    | (simp only [Exit.then, Exit.inBlock, ↓reduceIte, Nat.reduceEqDiff]))
      exact Sy.handed hJ (k := l.length - (k + 1)) (by omega) ⟨k + 1, rfl, by omega, any_up hlt hn hp, (T.part (by repeat (first | exact Sy.Part.nil | apply Sy.Part.cons rfl))), F⟩
    · rw [hp] at hcc
      refine Sy.st_callV (us := []) (ks := ks) T F (by exact rfl) hfl (by exact rfl) (by exact rfl) hcc ?_; (clear T F; intro ac w T F)
      repeat (first
    | (((with_reducible refine Sy.is_op ?_); refine Sy.st_pure T (h := ?_); clear T; intro ac T))
    | ((with_reducible refine Sy.is_cond ?_); (refine Sy.st_true T (h := ?_)))
    | (with_reducible refine wpList_nil ?_)
    | (with_reducible refine wp_region_lit ?_)
    | (with_reducible refine wp_ret ?_)
    | ((with_reducible refine wp_seq_k ?_); intro _ _)
    | (go_at_K; go_step)
    | (simp only [Exit.then, Exit.inBlock, ↓reduceIte, Nat.reduceEqDiff]))
      ((try simp only [Exit.inBlock, Exit.then]); refine Sy.st_ret1 T F rfl (by repeat (first | exact Sy.ResV.nil | apply Sy.ResV.tmp rfl | apply Sy.ResV.row rfl rfl rfl (by repeat (first | exact Sy.Take.here | apply Sy.Take.there)) (by rfl) | apply Sy.ResV.one rfl rfl rfl (by repeat (first | exact Sy.Take.here | apply Sy.Take.there)) (by rfl))) ?_)
      rw [idx_some hlt hn hp]
      exact F.retV _
  · obtain rfl : k = l.length := by omega
    have t1 : decide ((l.length : Int) < (l.length : Int)) = false := decide_eq_false (by omega)
    rw [List.take_length] at hn
    repeat (first
    | (((with_reducible refine Sy.is_op ?_); refine Sy.st_pure T (h := ?_); clear T; intro ac T))
    | ((with_reducible refine Sy.is_cond ?_); (refine Sy.st_false T (h := ?_)))
    | (with_reducible refine wpList_nil ?_)
    | (with_reducible refine wp_region_lit ?_)
    | (with_reducible refine wp_exit ?_)
    | (with_reducible refine wp_ret ?_)
    | ((with_reducible refine wp_seq_k ?_); intro _ _)
    | (go_at_K; go_step)
    | (simp only [Exit.then, Exit.inBlock, ↓reduceIte, Nat.reduceEqDiff]))
    ((try simp only [Exit.inBlock, Exit.then]); refine Sy.st_ret1 T F rfl (by repeat (first | exact Sy.ResV.nil | apply Sy.ResV.tmp rfl | apply Sy.ResV.row rfl rfl rfl (by repeat (first | exact Sy.Take.here | apply Sy.Take.there)) (by rfl) | apply Sy.ResV.one rfl rfl rfl (by repeat (first | exact Sy.Take.here | apply Sy.Take.there)) (by rfl))) ?_)
    rw [idx_none hn]
    exact F.retV _
set_option maxRecDepth 20000 in
theorem containsCell (w : World) {a : Option Addr} {cap : Nat} {l : List CellD} (h : Cels w a l) {f : FuncId} {ks : List Value} {p : CellD → Bool} (hfl : Sy.fl.contains f = true) (hc : ClosB CellR w f ks l p) :
    Calls Try.prog 123 #[.slice a l.length cap, .func (.func f) #[] ks.toArray] w (RetV w (.bool (l.any p))) := by
  have F := Sy.Mem.start (Sub.refl w)
  have t1 : decide (idxS p l ≥ 0) = l.any p := idx_any p l
  refine Sy.enter Try.func123 rfl Try.ntmps123 rfl ?_; intro ac T; simp only [Sy.enum, Nat.zero_add, Nat.reduceAdd] at T
  repeat (first
    | (((with_reducible refine Sy.is_op ?_); refine Sy.st_pure T (h := ?_); clear T; intro ac T))
    | (with_reducible refine wpList_nil ?_)
    | (with_reducible refine wp_region_lit ?_)
    | ((with_reducible refine wp_seq_k ?_); intro _ _)
    | (go_at_K; go_step)
    | (simp only [Exit.then, Exit.inBlock, ↓reduceIte, Nat.reduceEqDiff]))
  refine Sy.st_callV0 T F (hc := indexCell _ h hfl hc) (h := ?_); (clear T F; intro ac w T F)
  repeat (first
    | (((with_reducible refine Sy.is_op ?_); refine Sy.st_pure T (h := ?_); clear T; intro ac T))
    | (with_reducible refine wpList_nil ?_)
    | (with_reducible refine wp_ret ?_)
    | (go_at_K; go_step)
    | (simp only [Exit.then, Exit.inBlock, ↓reduceIte, Nat.reduceEqDiff]))
  ((try simp only [Exit.inBlock, Exit.then]); refine Sy.st_ret1 T F rfl (by repeat (first | exact Sy.ResV.nil | apply Sy.ResV.tmp rfl | apply Sy.ResV.row rfl rfl rfl (by repeat (first | exact Sy.Take.here | apply Sy.Take.there)) (by rfl) | apply Sy.ResV.one rfl rfl rfl (by repeat (first | exact Sy.Take.here | apply Sy.Take.there)) (by rfl))) ?_)
  exact F.retV _
set_option maxRecDepth 20000 in
theorem risesCell (w : World) {a : Option Addr} {cap : Nat} {l : List CellD} (h : Cels w a l) {f : FuncId} {ks : List Value} {p : CellD → Nat} (hfl : Sy.fl.contains f = true) (hc : ClosN CellR w f ks l p) (least : Nat) :
    Calls Try.prog 125 #[.slice a l.length cap, .int .u64 (least : Int), .func (.func f) #[] ks.toArray] w (RetV w (.bool (risesS p l least))) := by
  have F := Sy.Mem.start (Sub.refl w)
  have hml := h.1
  unfold maxLen at hml
  refine Sy.enter Try.func125 rfl Try.ntmps125 rfl ?_; intro ac T; simp only [Sy.enum, Nat.zero_add, Nat.reduceAdd] at T
  repeat (first
    | (((with_reducible refine Sy.is_op ?_); refine Sy.st_pure T (h := ?_); clear T; intro ac T))
    | (with_reducible refine wpList_nil ?_)
    | (with_reducible refine wp_region_lit ?_)
    | (with_reducible refine wp_block ?_)
    | ((with_reducible refine wp_seq_k ?_); intro _ _)
    | (go_at_K; go_step)
    | (simp only [Exit.then, Exit.inBlock, ↓reduceIte, Nat.reduceEqDiff]))
  refine wp_loop_ghost_k (fun i ac w' => ∃ (k b : Nat), i = l.length - k ∧ k ≤ l.length ∧ risesS p l least = risesS p (l.drop k) b ∧
    Sy.Tm ac 25 [(1, .int .u64 (b : Int)), (2, .func (.func f) #[] ks.toArray), (10, .slice a l.length cap), (11, .int .i64 (l.length : Int)), (12, .int .i64 (k : Int))] ∧ Sy.Mem ⟨w, [], w⟩ w [] w') l.length ?_ ?_
  · exact ⟨0, least, rfl, Nat.zero_le _, rfl, (T.part (by repeat (first | exact Sy.Part.nil | apply Sy.Part.cons rfl))), F⟩
  intro i ac w' hI J K hJ hK
  obtain ⟨k, b, rfl, hk, hn, T, F⟩ := hI
  by_cases hlt : k < l.length
  · have t1 : decide ((k : Int) < (l.length : Int)) = true := decide_eq_true (by omega)
    have t2 : IntKind.i64.wrap ((k : Int) + 1) = ((k + 1 : Nat) : Int) := by rw [i64_wrap (by omega) (by omega)]; omega
    obtain ⟨bb, o, cs, ha, hcl, hat, hr⟩ := rows_get h hlt
    subst ha
    rw [drop_cons hlt] at hn
    have t3 : IntKind.u64.wrap ((p l[k] : Int) + 1) = (((p l[k] + 1) % 18446744073709551616 : Nat) : Int) := by rw [IntKind.wrap_u64]; omega
    have hone : (Value.agg cs.toArray).cells = cs.toArray := rfl
    have h1 : cs.all (·.oneCell') = true := by (have hr2 := hr; obtain ⟨rfl, _⟩ := hr2; rfl)
    repeat (first
    | (((with_reducible refine Sy.is_load ?_); (first
    | refine Sy.st_loadAll T F (h := ?_)
    | refine Sy.st_oldAgg T F (h := ?_)); clear T; intro ac T))
    | (((with_reducible refine Sy.is_store ?_); (refine Sy.st_storeAll T F (h := ?_)); clear T F; intro ac w T F))
    | (((with_reducible refine Sy.is_alloc ?_); refine Sy.st_alloc T F (h := ?_); clear T F; intro ac g w T F))
    | (((with_reducible refine Sy.is_op ?_); refine Sy.st_pure T (h := ?_); clear T; intro ac T))
    | ((with_reducible refine Sy.is_cond ?_); (refine Sy.st_true T (h := ?_)))
    | (with_reducible refine wpList_nil ?_)
    | (with_reducible refine wp_region_lit ?_)
    | (with_reducible refine wp_block ?_)
    | (with_reducible refine wp_skip ?_)
    | ((with_reducible refine wp_seq_k ?_); intro _ _)
    | (go_at_K; go_step)
    | (simp only [Exit.then, Exit.inBlock, ↓reduceIte, Nat.reduceEqDiff]))
    have hcc := hc _ _ (Sub.refl _) F.sub _ (List.getElem_mem hlt) cs hr
    by_cases hp : p l[k] < b
    · have t4 : decide ((p l[k] : Int) < (b : Int)) = true := decide_eq_true (by omega)
      refine Sy.st_callV (us := []) (ks := ks) T F (by exact rfl) hfl (by exact rfl) (by exact rfl) hcc ?_; (clear T F; intro ac w T F)
      repeat (first
    | (((with_reducible refine Sy.is_op ?_); refine Sy.st_pure T (h := ?_); clear T; intro ac T))
    | ((with_reducible refine Sy.is_cond ?_); (refine Sy.st_true T (h := ?_)))
    | (with_reducible refine wpList_nil ?_)
    | (with_reducible refine wp_region_lit ?_)
    | (with_reducible refine wp_ret ?_)
    | ((with_reducible refine wp_seq_k ?_); intro _ _)
    | (go_at_K; go_step)
    | (simp only [Exit.then, Exit.inBlock, ↓reduceIte, Nat.reduceEqDiff]))
      ((try simp only [Exit.inBlock, Exit.then]); refine Sy.st_ret1 T F rfl (by repeat (first | exact Sy.ResV.nil | apply Sy.ResV.tmp rfl | apply Sy.ResV.row rfl rfl rfl (by repeat (first | exact Sy.Take.here | apply Sy.Take.there)) (by rfl) | apply Sy.ResV.one rfl rfl rfl (by repeat (first | exact Sy.Take.here | apply Sy.Take.there)) (by rfl))) ?_)
      exact retBb F (by rw [hn, risesS, if_pos hp])
    · have t4 : decide ((p l[k] : Int) < (b : Int)) = false := decide_eq_false (by omega)
      refine Sy.st_callV (us := []) (ks := ks) T F (by exact rfl) hfl (by exact rfl) (by exact rfl) hcc ?_; (clear T F; intro ac w T F)
      repeat (first
    | (((with_reducible refine Sy.is_op ?_); refine Sy.st_pure T (h := ?_); clear T; intro ac T))
    | ((with_reducible refine Sy.is_cond ?_); (refine Sy.st_false T (h := ?_)))
    | (with_reducible refine wpList_nil ?_)
    | (with_reducible refine wp_region_lit ?_)
    | (with_reducible refine wp_skip ?_)
    | ((with_reducible refine wp_seq_k ?_); intro _ _)
    | (go_at_K; go_step)
    | (simp only [Exit.then, Exit.inBlock, ↓reduceIte, Nat.reduceEqDiff]))
      exact Sy.handed hJ (k := l.length - (k + 1)) (by omega) ⟨k + 1, _, rfl, by omega, by rw [hn, risesS, if_neg hp], (T.part (by repeat (first | exact Sy.Part.nil | apply Sy.Part.cons rfl))), (F.sel (by repeat (first | exact Sy.Sel.nil | apply Sy.Sel.cons (by repeat (first | exact Sy.Take.here | apply Sy.Take.there)))))⟩
  · obtain rfl : k = l.length := by omega
    have t1 : decide ((l.length : Int) < (l.length : Int)) = false := decide_eq_false (by omega)
    repeat (first
    | (((with_reducible refine Sy.is_op ?_); refine Sy.st_pure T (h := ?_); clear T; intro ac T))
    | ((with_reducible refine Sy.is_cond ?_); (refine Sy.st_false T (h := ?_)))
    | (with_reducible refine wpList_nil ?_)
    | (with_reducible refine wp_region_lit ?_)
    | (with_reducible refine wp_exit ?_)
    | (with_reducible refine wp_ret ?_)
    | ((with_reducible refine wp_seq_k ?_); intro _ _)
    | (go_at_K; go_step)
    | (simp only [Exit.then, Exit.inBlock, ↓reduceIte, Nat.reduceEqDiff]))
    ((try simp only [Exit.inBlock, Exit.then]); refine Sy.st_ret1 T F rfl (by repeat (first | exact Sy.ResV.nil | apply Sy.ResV.tmp rfl | apply Sy.ResV.row rfl rfl rfl (by repeat (first | exact Sy.Take.here | apply Sy.Take.there)) (by rfl) | apply Sy.ResV.one rfl rfl rfl (by repeat (first | exact Sy.Take.here | apply Sy.Take.there)) (by rfl))) ?_)
    exact retBb F (by rw [hn, List.drop_length]; rfl)

set_option maxRecDepth 20000 in
theorem indexMark (w : World) {a : Option Addr} {cap : Nat} {l : List MarkD} (h : Marks w a l) {f : FuncId} {ks : List Value} {p : MarkD → Bool} (hfl : Sy.fl.contains f = true) (hc : ClosB MarkR w f ks l p) :
    Calls Try.prog 139 #[.slice a l.length cap, .func (.func f) #[] ks.toArray] w (RetV w (.int .i64 (idxS p l))) := by
  have F := Sy.Mem.start (Sub.refl w)
  have hml := h.1
  unfold maxLen at hml
  refine Sy.enter Try.func139 rfl Try.ntmps139 rfl ?_; intro ac T; simp only [Sy.enum, Nat.zero_add, Nat.reduceAdd] at T
  repeat (first
    | (((with_reducible refine Sy.is_op ?_); refine Sy.st_pure T (h := ?_); clear T; intro ac T))
    | (with_reducible refine wpList_nil ?_)
    | (with_reducible refine wp_region_lit ?_)
    | (with_reducible refine wp_block ?_)
    | ((with_reducible refine wp_seq_k ?_); intro _ _)
    | (go_at_K; go_step)
    | (simp only [Exit.then, Exit.inBlock, ↓reduceIte, Nat.reduceEqDiff]))
  refine wp_loop_ghost_k (fun i ac w' => ∃ (k : Nat), i = l.length - k ∧ k ≤ l.length ∧ (l.take k).any p = false ∧
    Sy.Tm ac 19 [(0, .slice a l.length cap), (1, .func (.func f) #[] ks.toArray), (7, .int .i64 (l.length : Int)), (8, .int .i64 (k : Int))] ∧ Sy.Mem ⟨w, [], w⟩ w [] w') l.length ?_ ?_
  · exact ⟨0, rfl, Nat.zero_le _, rfl, (T.part (by repeat (first | exact Sy.Part.nil | apply Sy.Part.cons rfl))), F⟩
  intro i ac w' hI J K hJ hK
  obtain ⟨k, rfl, hk, hn, T, F⟩ := hI
  by_cases hlt : k < l.length
  · have t1 : decide ((k : Int) < (l.length : Int)) = true := decide_eq_true (by omega)
    have t2 : IntKind.i64.wrap ((k : Int) + 1) = ((k + 1 : Nat) : Int) := by rw [i64_wrap (by omega) (by omega)]; omega
    obtain ⟨b, o, cs, ha, hcl, hat, hr⟩ := rows_get h hlt
    subst ha
    repeat (first
    | (((with_reducible refine Sy.is_load ?_); (refine Sy.st_oldAgg T F (h := ?_)); clear T; intro ac T))
    | (((with_reducible refine Sy.is_op ?_); refine Sy.st_pure T (h := ?_); clear T; intro ac T))
    | ((with_reducible refine Sy.is_cond ?_); (refine Sy.st_true T (h := ?_)))
    | (with_reducible refine wpList_nil ?_)
    | (with_reducible refine wp_region_lit ?_)
    | (with_reducible refine wp_block ?_)
    | (with_reducible refine wp_skip ?_)
    | ((with_reducible refine wp_seq_k ?_); intro _ _)
    | (go_at_K; go_step)
    | (simp only [Exit.then, Exit.inBlock, ↓reduceIte, Nat.reduceEqDiff]))
    have hcc := hc _ _ (Sub.refl _) F.sub _ (List.getElem_mem hlt) cs hr
    cases hp : p l[k]
    · rw [hp] at hcc
      refine Sy.st_callV (us := []) (ks := ks) T F (by exact rfl) hfl (by exact rfl) (by exact rfl) hcc ?_; (clear T F; intro ac w T F)
      repeat (first
    | (((with_reducible refine Sy.is_op ?_); refine Sy.st_pure T (h := ?_); clear T; intro ac T))
    | ((with_reducible refine Sy.is_cond ?_); (refine Sy.st_false T (h := ?_)))
    | (with_reducible refine wpList_nil ?_)
    | (with_reducible refine wp_region_lit ?_)
    | (with_reducible refine wp_skip ?_)
    | (go_at_K; go_step)
    | (simp only [Exit.then, Exit.inBlock, ↓reduceIte, Nat.reduceEqDiff]))
      exact Sy.handed hJ (k := l.length - (k + 1)) (by omega) ⟨k + 1, rfl, by omega, any_up hlt hn hp, (T.part (by repeat (first | exact Sy.Part.nil | apply Sy.Part.cons rfl))), F⟩
    · rw [hp] at hcc
      refine Sy.st_callV (us := []) (ks := ks) T F (by exact rfl) hfl (by exact rfl) (by exact rfl) hcc ?_; (clear T F; intro ac w T F)
      repeat (first
    | (((with_reducible refine Sy.is_op ?_); refine Sy.st_pure T (h := ?_); clear T; intro ac T))
    | ((with_reducible refine Sy.is_cond ?_); (refine Sy.st_true T (h := ?_)))
    | (with_reducible refine wpList_nil ?_)
    | (with_reducible refine wp_region_lit ?_)
    | (with_reducible refine wp_ret ?_)
    | ((with_reducible refine wp_seq_k ?_); intro _ _)
    | (go_at_K; go_step)
    | (simp only [Exit.then, Exit.inBlock, ↓reduceIte, Nat.reduceEqDiff]))
      ((try simp only [Exit.inBlock, Exit.then]); refine Sy.st_ret1 T F rfl (by repeat (first | exact Sy.ResV.nil | apply Sy.ResV.tmp rfl | apply Sy.ResV.row rfl rfl rfl (by repeat (first | exact Sy.Take.here | apply Sy.Take.there)) (by rfl) | apply Sy.ResV.one rfl rfl rfl (by repeat (first | exact Sy.Take.here | apply Sy.Take.there)) (by rfl))) ?_)
      rw [idx_some hlt hn hp]
      exact F.retV _
  · obtain rfl : k = l.length := by omega
    have t1 : decide ((l.length : Int) < (l.length : Int)) = false := decide_eq_false (by omega)
    rw [List.take_length] at hn
    repeat (first
    | (((with_reducible refine Sy.is_op ?_); refine Sy.st_pure T (h := ?_); clear T; intro ac T))
    | ((with_reducible refine Sy.is_cond ?_); (refine Sy.st_false T (h := ?_)))
    | (with_reducible refine wpList_nil ?_)
    | (with_reducible refine wp_region_lit ?_)
    | (with_reducible refine wp_exit ?_)
    | (with_reducible refine wp_ret ?_)
    | ((with_reducible refine wp_seq_k ?_); intro _ _)
    | (go_at_K; go_step)
    | (simp only [Exit.then, Exit.inBlock, ↓reduceIte, Nat.reduceEqDiff]))
    ((try simp only [Exit.inBlock, Exit.then]); refine Sy.st_ret1 T F rfl (by repeat (first | exact Sy.ResV.nil | apply Sy.ResV.tmp rfl | apply Sy.ResV.row rfl rfl rfl (by repeat (first | exact Sy.Take.here | apply Sy.Take.there)) (by rfl) | apply Sy.ResV.one rfl rfl rfl (by repeat (first | exact Sy.Take.here | apply Sy.Take.there)) (by rfl))) ?_)
    rw [idx_none hn]
    exact F.retV _
set_option maxRecDepth 20000 in
theorem containsMark (w : World) {a : Option Addr} {cap : Nat} {l : List MarkD} (h : Marks w a l) {f : FuncId} {ks : List Value} {p : MarkD → Bool} (hfl : Sy.fl.contains f = true) (hc : ClosB MarkR w f ks l p) :
    Calls Try.prog 127 #[.slice a l.length cap, .func (.func f) #[] ks.toArray] w (RetV w (.bool (l.any p))) := by
  have F := Sy.Mem.start (Sub.refl w)
  have t1 : decide (idxS p l ≥ 0) = l.any p := idx_any p l
  refine Sy.enter Try.func127 rfl Try.ntmps127 rfl ?_; intro ac T; simp only [Sy.enum, Nat.zero_add, Nat.reduceAdd] at T
  repeat (first
    | (((with_reducible refine Sy.is_op ?_); refine Sy.st_pure T (h := ?_); clear T; intro ac T))
    | (with_reducible refine wpList_nil ?_)
    | (with_reducible refine wp_region_lit ?_)
    | ((with_reducible refine wp_seq_k ?_); intro _ _)
    | (go_at_K; go_step)
    | (simp only [Exit.then, Exit.inBlock, ↓reduceIte, Nat.reduceEqDiff]))
  refine Sy.st_callV0 T F (hc := indexMark _ h hfl hc) (h := ?_); (clear T F; intro ac w T F)
  repeat (first
    | (((with_reducible refine Sy.is_op ?_); refine Sy.st_pure T (h := ?_); clear T; intro ac T))
    | (with_reducible refine wpList_nil ?_)
    | (with_reducible refine wp_ret ?_)
    | (go_at_K; go_step)
    | (simp only [Exit.then, Exit.inBlock, ↓reduceIte, Nat.reduceEqDiff]))
  ((try simp only [Exit.inBlock, Exit.then]); refine Sy.st_ret1 T F rfl (by repeat (first | exact Sy.ResV.nil | apply Sy.ResV.tmp rfl | apply Sy.ResV.row rfl rfl rfl (by repeat (first | exact Sy.Take.here | apply Sy.Take.there)) (by rfl) | apply Sy.ResV.one rfl rfl rfl (by repeat (first | exact Sy.Take.here | apply Sy.Take.there)) (by rfl))) ?_)
  exact F.retV _
set_option maxRecDepth 20000 in
theorem risesMark (w : World) {a : Option Addr} {cap : Nat} {l : List MarkD} (h : Marks w a l) {f : FuncId} {ks : List Value} {p : MarkD → Nat} (hfl : Sy.fl.contains f = true) (hc : ClosN MarkR w f ks l p) (least : Nat) :
    Calls Try.prog 129 #[.slice a l.length cap, .int .u64 (least : Int), .func (.func f) #[] ks.toArray] w (RetV w (.bool (risesS p l least))) := by
  have F := Sy.Mem.start (Sub.refl w)
  have hml := h.1
  unfold maxLen at hml
  refine Sy.enter Try.func129 rfl Try.ntmps129 rfl ?_; intro ac T; simp only [Sy.enum, Nat.zero_add, Nat.reduceAdd] at T
  repeat (first
    | (((with_reducible refine Sy.is_op ?_); refine Sy.st_pure T (h := ?_); clear T; intro ac T))
    | (with_reducible refine wpList_nil ?_)
    | (with_reducible refine wp_region_lit ?_)
    | (with_reducible refine wp_block ?_)
    | ((with_reducible refine wp_seq_k ?_); intro _ _)
    | (go_at_K; go_step)
    | (simp only [Exit.then, Exit.inBlock, ↓reduceIte, Nat.reduceEqDiff]))
  refine wp_loop_ghost_k (fun i ac w' => ∃ (k b : Nat), i = l.length - k ∧ k ≤ l.length ∧ risesS p l least = risesS p (l.drop k) b ∧
    Sy.Tm ac 25 [(1, .int .u64 (b : Int)), (2, .func (.func f) #[] ks.toArray), (10, .slice a l.length cap), (11, .int .i64 (l.length : Int)), (12, .int .i64 (k : Int))] ∧ Sy.Mem ⟨w, [], w⟩ w [] w') l.length ?_ ?_
  · exact ⟨0, least, rfl, Nat.zero_le _, rfl, (T.part (by repeat (first | exact Sy.Part.nil | apply Sy.Part.cons rfl))), F⟩
  intro i ac w' hI J K hJ hK
  obtain ⟨k, b, rfl, hk, hn, T, F⟩ := hI
  by_cases hlt : k < l.length
  · have t1 : decide ((k : Int) < (l.length : Int)) = true := decide_eq_true (by omega)
    have t2 : IntKind.i64.wrap ((k : Int) + 1) = ((k + 1 : Nat) : Int) := by rw [i64_wrap (by omega) (by omega)]; omega
    obtain ⟨bb, o, cs, ha, hcl, hat, hr⟩ := rows_get h hlt
    subst ha
    rw [drop_cons hlt] at hn
    have t3 : IntKind.u64.wrap ((p l[k] : Int) + 1) = (((p l[k] + 1) % 18446744073709551616 : Nat) : Int) := by rw [IntKind.wrap_u64]; omega
    have hone : (Value.agg cs.toArray).cells = cs.toArray := rfl
    have h1 : cs.all (·.oneCell') = true := by (have hr2 := hr; obtain ⟨rfl, _⟩ := hr2; rfl)
    repeat (first
    | (((with_reducible refine Sy.is_load ?_); (first
    | refine Sy.st_loadAll T F (h := ?_)
    | refine Sy.st_oldAgg T F (h := ?_)); clear T; intro ac T))
    | (((with_reducible refine Sy.is_store ?_); (refine Sy.st_storeAll T F (h := ?_)); clear T F; intro ac w T F))
    | (((with_reducible refine Sy.is_alloc ?_); refine Sy.st_alloc T F (h := ?_); clear T F; intro ac g w T F))
    | (((with_reducible refine Sy.is_op ?_); refine Sy.st_pure T (h := ?_); clear T; intro ac T))
    | ((with_reducible refine Sy.is_cond ?_); (refine Sy.st_true T (h := ?_)))
    | (with_reducible refine wpList_nil ?_)
    | (with_reducible refine wp_region_lit ?_)
    | (with_reducible refine wp_block ?_)
    | (with_reducible refine wp_skip ?_)
    | ((with_reducible refine wp_seq_k ?_); intro _ _)
    | (go_at_K; go_step)
    | (simp only [Exit.then, Exit.inBlock, ↓reduceIte, Nat.reduceEqDiff]))
    have hcc := hc _ _ (Sub.refl _) F.sub _ (List.getElem_mem hlt) cs hr
    by_cases hp : p l[k] < b
    · have t4 : decide ((p l[k] : Int) < (b : Int)) = true := decide_eq_true (by omega)
      refine Sy.st_callV (us := []) (ks := ks) T F (by exact rfl) hfl (by exact rfl) (by exact rfl) hcc ?_; (clear T F; intro ac w T F)
      repeat (first
    | (((with_reducible refine Sy.is_op ?_); refine Sy.st_pure T (h := ?_); clear T; intro ac T))
    | ((with_reducible refine Sy.is_cond ?_); (refine Sy.st_true T (h := ?_)))
    | (with_reducible refine wpList_nil ?_)
    | (with_reducible refine wp_region_lit ?_)
    | (with_reducible refine wp_ret ?_)
    | ((with_reducible refine wp_seq_k ?_); intro _ _)
    | (go_at_K; go_step)
    | (simp only [Exit.then, Exit.inBlock, ↓reduceIte, Nat.reduceEqDiff]))
      ((try simp only [Exit.inBlock, Exit.then]); refine Sy.st_ret1 T F rfl (by repeat (first | exact Sy.ResV.nil | apply Sy.ResV.tmp rfl | apply Sy.ResV.row rfl rfl rfl (by repeat (first | exact Sy.Take.here | apply Sy.Take.there)) (by rfl) | apply Sy.ResV.one rfl rfl rfl (by repeat (first | exact Sy.Take.here | apply Sy.Take.there)) (by rfl))) ?_)
      exact retBb F (by rw [hn, risesS, if_pos hp])
    · have t4 : decide ((p l[k] : Int) < (b : Int)) = false := decide_eq_false (by omega)
      refine Sy.st_callV (us := []) (ks := ks) T F (by exact rfl) hfl (by exact rfl) (by exact rfl) hcc ?_; (clear T F; intro ac w T F)
      repeat (first
    | (((with_reducible refine Sy.is_op ?_); refine Sy.st_pure T (h := ?_); clear T; intro ac T))
    | ((with_reducible refine Sy.is_cond ?_); (refine Sy.st_false T (h := ?_)))
    | (with_reducible refine wpList_nil ?_)
    | (with_reducible refine wp_region_lit ?_)
    | (with_reducible refine wp_skip ?_)
    | ((with_reducible refine wp_seq_k ?_); intro _ _)
    | (go_at_K; go_step)
    | (simp only [Exit.then, Exit.inBlock, ↓reduceIte, Nat.reduceEqDiff]))
      exact Sy.handed hJ (k := l.length - (k + 1)) (by omega) ⟨k + 1, _, rfl, by omega, by rw [hn, risesS, if_neg hp], (T.part (by repeat (first | exact Sy.Part.nil | apply Sy.Part.cons rfl))), (F.sel (by repeat (first | exact Sy.Sel.nil | apply Sy.Sel.cons (by repeat (first | exact Sy.Take.here | apply Sy.Take.there)))))⟩
  · obtain rfl : k = l.length := by omega
    have t1 : decide ((l.length : Int) < (l.length : Int)) = false := decide_eq_false (by omega)
    repeat (first
    | (((with_reducible refine Sy.is_op ?_); refine Sy.st_pure T (h := ?_); clear T; intro ac T))
    | ((with_reducible refine Sy.is_cond ?_); (refine Sy.st_false T (h := ?_)))
    | (with_reducible refine wpList_nil ?_)
    | (with_reducible refine wp_region_lit ?_)
    | (with_reducible refine wp_exit ?_)
    | (with_reducible refine wp_ret ?_)
    | ((with_reducible refine wp_seq_k ?_); intro _ _)
    | (go_at_K; go_step)
    | (simp only [Exit.then, Exit.inBlock, ↓reduceIte, Nat.reduceEqDiff]))
    ((try simp only [Exit.inBlock, Exit.then]); refine Sy.st_ret1 T F rfl (by repeat (first | exact Sy.ResV.nil | apply Sy.ResV.tmp rfl | apply Sy.ResV.row rfl rfl rfl (by repeat (first | exact Sy.Take.here | apply Sy.Take.there)) (by rfl) | apply Sy.ResV.one rfl rfl rfl (by repeat (first | exact Sy.Take.here | apply Sy.Take.there)) (by rfl))) ?_)
    exact retBb F (by rw [hn, List.drop_length]; rfl)
end Rg
end Go.Proofs.Ytniopkoaplkpkaa
