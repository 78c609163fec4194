/- The walk of the document's rule. Conditions: the rule can be read. The walk of the document's May. Conditions: the contract can be read. The walks of Find, the code's and the document's. Conditions: the contract and the variables can be read. The walk of the document's Great at contracts. Conditions: the contract can be read. -/
import Derived.Test.YtniopkoaplkpkaaTbM
import Derived.Test.YtniopkoaplkpkaaSyD
import Derived.Test.YtniopkoaplkpkaaTbO
import Derived.Test.YtniopkoaplkpkaaTbD
namespace Go.Proofs.Ytniopkoaplkpkaa
open Go.RowKit
set_option linter.unusedVariables false
set_option linter.unusedSimpArgs false
namespace Tb
open Sy (RetV RetM Sub)
open Rg (and2 and3 and4 and5 and6 and7 and8 and9 or2 or3 or4 or5 or6 or7 retBb not_t not_f eqT eqF i64_up i64_wrap ClosB any_up any_hit)
set_option maxRecDepth 20000 in
set_option maxHeartbeats 2000000 in
theorem ruleR_head (w : World) (r : RuleD) (p : RuleA) (states vars : Int) (hh : headS states r = false) :
    Calls Try.prog 86 #[.agg (ruleCs r p).toArray, .int .i64 states, .int .i64 vars] w (RetV w (.bool false)) := by
  have F := Sy.Mem.start (Sub.refl w)
  rcases and6 (inS r.src states) (inS r.dst states) (inS r.action 32) (inS r.party 8) (!decide ((r.sets.length : Int) > 8)) (!decide ((r.emits.length : Int) > 4)) with t1 | ⟨t1, t2⟩ | ⟨t1, t2, t3⟩ | ⟨t1, t2, t3, t4⟩ | ⟨t1, t2, t3, t4, t5⟩ | ⟨t1, t2, t3, t4, t5, t6⟩ | ⟨t1, t2, t3, t4, t5, t6⟩
  case inr.inr.inr.inr.inr.inr => unfold headS at hh; rw [t1, t2, t3, t4, t5, t6] at hh; cases hh
  all_goals
    (try replace t5 := not_t t5)
    (try replace t5 := not_f t5)
    (try replace t6 := not_f t6)
    refine Sy.enter Try.func86 rfl Try.ntmps86 rfl ?_; intro ac T; simp only [Sy.enum, Nat.zero_add, Nat.reduceAdd] at T
    repeat (first
    | (((with_reducible refine Sy.is_load ?_); (refine Sy.st_loadOne T F (h := ?_)); clear T; intro ac T))
    | (((with_reducible refine Sy.is_box ?_); (refine Sy.st_boxAgg T F (h := ?_)); clear T F; intro ac g w T F))
    | (((with_reducible refine Sy.is_op ?_); refine Sy.st_pure T (h := ?_); clear T; intro ac T))
    | (with_reducible refine wpList_nil ?_)
    | (with_reducible refine wp_region_lit ?_)
    | ((with_reducible refine wp_seq_k ?_); intro _ _)
    | (go_at_K; go_step)
    | (simp only [Exit.then, Exit.inBlock, ↓reduceIte, Nat.reduceEqDiff]))
    refine Sy.st_callV0 T F (hc := below_any _ _ _ t1) (h := ?_); (clear T F; intro ac w T F)
    repeat (first
    | (((with_reducible refine Sy.is_guard ?_); (first
    | refine Sy.st_guard T (h := ?_)
    | (refine Sy.st_unguard T (h := ?_); clear T; intro ac T))))
    | (((with_reducible refine Sy.is_load ?_); (refine Sy.st_loadOne T F (h := ?_)); clear T; intro ac T))
    | (((with_reducible refine Sy.is_op ?_); refine Sy.st_pure T (h := ?_); clear T; intro ac T))
    | ((with_reducible refine Sy.is_cond ?_); (refine Sy.st_true T (h := ?_)))
    | (with_reducible refine wpList_nil ?_)
    | (with_reducible refine wp_region_lit ?_)
    | (with_reducible refine wp_ret ?_)
    | ((with_reducible refine wp_seq_k ?_); intro _ _)
    | (go_at_K; go_step)
    | (simp only [Exit.then, Exit.inBlock, ↓reduceIte, Nat.reduceEqDiff]))
    try (refine Sy.st_callV0 T F (hc := below_any _ _ _ t2) (h := ?_); (clear T F; intro ac w T F))
    repeat (first
    | (((with_reducible refine Sy.is_guard ?_); (first
    | refine Sy.st_guard T (h := ?_)
    | (refine Sy.st_unguard T (h := ?_); clear T; intro ac T))))
    | (((with_reducible refine Sy.is_load ?_); (refine Sy.st_loadOne T F (h := ?_)); clear T; intro ac T))
    | (((with_reducible refine Sy.is_op ?_); refine Sy.st_pure T (h := ?_); clear T; intro ac T))
    | ((with_reducible refine Sy.is_cond ?_); (refine Sy.st_true T (h := ?_)))
    | (with_reducible refine wpList_nil ?_)
    | (with_reducible refine wp_region_lit ?_)
    | (with_reducible refine wp_ret ?_)
    | ((with_reducible refine wp_seq_k ?_); intro _ _)
    | (go_at_K; go_step)
    | (simp only [Exit.then, Exit.inBlock, ↓reduceIte, Nat.reduceEqDiff]))
    try (refine Sy.st_callV0 T F (hc := below_any _ _ _ t3) (h := ?_); (clear T F; intro ac w T F))
    repeat (first
    | (((with_reducible refine Sy.is_guard ?_); (first
    | refine Sy.st_guard T (h := ?_)
    | (refine Sy.st_unguard T (h := ?_); clear T; intro ac T))))
    | (((with_reducible refine Sy.is_load ?_); (refine Sy.st_loadOne T F (h := ?_)); clear T; intro ac T))
    | (((with_reducible refine Sy.is_op ?_); refine Sy.st_pure T (h := ?_); clear T; intro ac T))
    | ((with_reducible refine Sy.is_cond ?_); (refine Sy.st_true T (h := ?_)))
    | (with_reducible refine wpList_nil ?_)
    | (with_reducible refine wp_region_lit ?_)
    | (with_reducible refine wp_ret ?_)
    | ((with_reducible refine wp_seq_k ?_); intro _ _)
    | (go_at_K; go_step)
    | (simp only [Exit.then, Exit.inBlock, ↓reduceIte, Nat.reduceEqDiff]))
    try (refine Sy.st_callV0 T F (hc := below_any _ _ _ t4) (h := ?_); (clear T F; intro ac w T F))
    repeat (first
    | (((with_reducible refine Sy.is_guard ?_); (first
    | refine Sy.st_guard T (h := ?_)
    | (refine Sy.st_unguard T (h := ?_); clear T; intro ac T))))
    | (((with_reducible refine Sy.is_load ?_); (refine Sy.st_loadOne T F (h := ?_)); clear T; intro ac T))
    | (((with_reducible refine Sy.is_op ?_); refine Sy.st_pure T (h := ?_); clear T; intro ac T))
    | ((with_reducible refine Sy.is_cond ?_); (refine Sy.st_true T (h := ?_)))
    | (with_reducible refine wpList_nil ?_)
    | (with_reducible refine wp_region_lit ?_)
    | (with_reducible refine wp_ret ?_)
    | ((with_reducible refine wp_seq_k ?_); intro _ _)
    | (go_at_K; go_step)
    | (simp only [Exit.then, Exit.inBlock, ↓reduceIte, Nat.reduceEqDiff]))
    ((try simp only [Exit.inBlock, Exit.then]); refine Sy.st_ret1 T F rfl (by repeat (first | exact Sy.ResV.nil | apply Sy.ResV.tmp rfl | apply Sy.ResV.row rfl rfl rfl (by repeat (first | exact Sy.Take.here | apply Sy.Take.there)) (by rfl) | apply Sy.ResV.one rfl rfl rfl (by repeat (first | exact Sy.Take.here | apply Sy.Take.there)) (by rfl))) ?_)
    exact F.retV _
set_option maxRecDepth 20000 in
set_option maxHeartbeats 2000000 in
theorem ruleR_rest (w0 : World) (r : RuleD) (p : RuleA) (h : RuleAt w0 r p) (states vars : Int) (hh : headS states r = true) :
    Calls Try.prog 86 #[.agg (ruleCs r p).toArray, .int .i64 states, .int .i64 vars] w0 (RetV w0 (.bool (ruleS states vars r))) := by
  have F := Sy.Mem.start (Sub.refl w0)
  have hfin : ruleS states vars r = ((!decide ((r.guard.length : Int) > 0) || Ex.mayS r.guard vars) && (setsS vars none r.sets && !r.emits.any (badE vars))) := by unfold ruleS; rw [hh]; rfl
  unfold headS at hh
  simp only [Bool.and_eq_true] at hh
  obtain ⟨t1, t2, t3, t4, t5, t6⟩ := hh
  replace t5 := not_t t5
  replace t6 := not_t t6
  obtain ⟨ga, gc, sa, sc, ea, ec⟩ := p
  have hml : r.sets.length ≤ maxLen := h.sets.1
  have hml2 : r.emits.length ≤ maxLen := h.emits.1
  have hg := h.guard
  have hse := h.sets
  have hem := h.emits
  simp only at hg hse hem
  refine Sy.enter Try.func86 rfl Try.ntmps86 rfl ?_; intro ac T; simp only [Sy.enum, Nat.zero_add, Nat.reduceAdd] at T
  repeat (first
    | (((with_reducible refine Sy.is_load ?_); (refine Sy.st_loadOne T F (h := ?_)); clear T; intro ac T))
    | (((with_reducible refine Sy.is_box ?_); (refine Sy.st_boxAgg T F (h := ?_)); clear T F; intro ac g w T F))
    | (((with_reducible refine Sy.is_op ?_); refine Sy.st_pure T (h := ?_); clear T; intro ac T))
    | (with_reducible refine wpList_nil ?_)
    | (with_reducible refine wp_region_lit ?_)
    | ((with_reducible refine wp_seq_k ?_); intro _ _)
    | (go_at_K; go_step)
    | (simp only [Exit.then, Exit.inBlock, ↓reduceIte, Nat.reduceEqDiff]))
  refine Sy.st_callV0 T F (hc := below_any _ _ _ t1) (h := ?_); (clear T F; intro ac w T F)
  repeat (first
    | (((with_reducible refine Sy.is_guard ?_); (refine Sy.st_guard T (h := ?_))))
    | (((with_reducible refine Sy.is_load ?_); (refine Sy.st_loadOne T F (h := ?_)); clear T; intro ac T))
    | (((with_reducible refine Sy.is_op ?_); refine Sy.st_pure T (h := ?_); clear T; intro ac T)))
  refine Sy.st_callV0 T F (hc := below_any _ _ _ t2) (h := ?_); (clear T F; intro ac w T F)
  repeat (first
    | (((with_reducible refine Sy.is_guard ?_); (refine Sy.st_guard T (h := ?_))))
    | (((with_reducible refine Sy.is_load ?_); (refine Sy.st_loadOne T F (h := ?_)); clear T; intro ac T))
    | (((with_reducible refine Sy.is_op ?_); refine Sy.st_pure T (h := ?_); clear T; intro ac T)))
  refine Sy.st_callV0 T F (hc := below_any _ _ _ t3) (h := ?_); (clear T F; intro ac w T F)
  repeat (first
    | (((with_reducible refine Sy.is_guard ?_); (refine Sy.st_guard T (h := ?_))))
    | (((with_reducible refine Sy.is_load ?_); (refine Sy.st_loadOne T F (h := ?_)); clear T; intro ac T))
    | (((with_reducible refine Sy.is_op ?_); refine Sy.st_pure T (h := ?_); clear T; intro ac T)))
  refine Sy.st_callV0 T F (hc := below_any _ _ _ t4) (h := ?_); (clear T F; intro ac w T F)
  repeat (first
    | (((with_reducible refine Sy.is_guard ?_); (refine Sy.st_guard T (h := ?_))))
    | (((with_reducible refine Sy.is_load ?_); (refine Sy.st_loadOne T F (h := ?_)); clear T; intro ac T))
    | (((with_reducible refine Sy.is_op ?_); refine Sy.st_pure T (h := ?_); clear T; intro ac T))
    | ((with_reducible refine Sy.is_cond ?_); (refine Sy.st_false T (h := ?_)))
    | (with_reducible refine wpList_nil ?_)
    | (with_reducible refine wp_region_lit ?_)
    | (with_reducible refine wp_skip ?_)
    | ((with_reducible refine wp_seq_k ?_); intro _ _)
    | (go_at_K; go_step)
    | (simp only [Exit.then, Exit.inBlock, ↓reduceIte, Nat.reduceEqDiff]))
  rename ∀ (a : Act) (w : World), Code.wp _ (Code.seq (Code.seq (Code.region 5 _ _) _) _) _ a w → _ => hKo
  have H := Sy.cutP (I := fun ac w => (!decide ((r.guard.length : Int) > 0) || Ex.mayS r.guard vars) = true ∧ Sy.Tm ac 132 [(2, .int .i64 vars), (3, .pointer (some ⟨g, 0, none⟩)), (6, .bool false)] ∧
    Sy.Mem ⟨w0, [], w0⟩ w0 [⟨g, ruleCs r ⟨ga, gc, sa, sc, ea, ec⟩, 76⟩] w) hKo (by
    clear T F
    intro ac w hI
    obtain ⟨hgg, T, F⟩ := hI
    rw [hgg, Bool.true_and] at hfin
    clear hKo hgg
    repeat (first
    | (((with_reducible refine Sy.is_load ?_); (refine Sy.st_loadOne T F (h := ?_)); clear T; intro ac T))
    | (((with_reducible refine Sy.is_op ?_); refine Sy.st_pure T (h := ?_); clear T; intro ac T))
    | (with_reducible refine wpList_nil ?_)
    | (with_reducible refine wp_region_lit ?_)
    | (with_reducible refine wp_block ?_)
    | ((with_reducible refine wp_seq_k ?_); intro _ _)
    | (go_at_K; go_step)
    | (simp only [Exit.then, Exit.inBlock, ↓reduceIte, Nat.reduceEqDiff]))
    refine Sy.loop1 (fun g3 n ac w' => ∃ (k : Nat), n = r.sets.length - k ∧ k ≤ r.sets.length ∧ setsS vars none r.sets = setsS vars (prevAt r.sets k) (r.sets.drop k) ∧
      Sy.Tm ac 132 [(2, .int .i64 vars), (3, .pointer (some ⟨g3, 0, none⟩)), (6, .bool false), (59, .int .i64 (r.sets.length : Int)), (60, .int .i64 (k : Int))] ∧
      Sy.Mem ⟨w0, [], w0⟩ w0 [⟨g3, ruleCs r ⟨ga, gc, sa, sc, ea, ec⟩, 76⟩] w') r.sets.length (by exact ⟨0, rfl, Nat.zero_le _, rfl, (T.part (by repeat (first | exact Sy.Part.nil | apply Sy.Part.cons rfl))), (F.sel (by repeat (first | exact Sy.Sel.nil | apply Sy.Sel.cons (by repeat (first | exact Sy.Take.here | apply Sy.Take.there)))))⟩) ?_
    clear T F
    intro n ac w hI J K hJ hK
    obtain ⟨k, rfl, hk, hgo, T, F⟩ := hI
    by_cases hlt : k < r.sets.length
    · have v1 : decide ((k : Int) < (r.sets.length : Int)) = true := decide_eq_true (by omega)
      have v2 := i64_up hlt hml
      obtain ⟨b, o, cs, hsa, hcl, hat, a1, c1, rfl, hiv, htk⟩ := rows_get hse hlt
      subst hsa
      have hkk : (decide ((k : Int) > 0) = false ∧ leP (prevAt r.sets k) r.sets[k].var = false) ∨ (decide ((k : Int) > 0) = true ∧ ∃ pv : Int, IntKind.i64.wrap ((k : Int) - 1) = ((k - 1 : Nat) : Int) ∧ k - 1 < r.sets.length ∧ w0.cell? ⟨b, o + (k - 1) * 2 + 0, none⟩ = some (.int .i64 pv) ∧ leP (prevAt r.sets k) r.sets[k].var = decide (pv ≥ r.sets[k].var)) := by
        by_cases hk0 : k = 0
        · left
          subst hk0
          exact ⟨by simp, by simp [prevAt, leP]⟩
        · right
          have hk1 : k - 1 < r.sets.length := by omega
          obtain ⟨b2, o2, cs2, ha2, _, hat2, a2, c2, rfl, _, _⟩ := rows_get hse hk1
          simp at ha2
          obtain ⟨rfl, rfl⟩ := ha2
          unfold maxLen at hml
          exact ⟨decide_eq_true (by omega), r.sets[k - 1].var, by rw [i64_wrap (by omega) (by omega)]; omega, hk1, Sy.At.get0 hat2 rfl, by simp [prevAt, leP, hk0, hk1]⟩
      rcases or3 (!inS r.sets[k].var vars) (!Ex.mayS r.sets[k].val vars) (leP (prevAt r.sets k) r.sets[k].var) with s1 | ⟨s1, s2⟩ | ⟨s1, s2, s3⟩ | ⟨s1, s2, s3⟩
      · have hb : badS vars (prevAt r.sets k) r.sets[k] = true := by unfold badS; rw [s1]; rfl
        rw [sets_no hlt hb] at hgo
        repeat (first
    | (((with_reducible refine Sy.is_op ?_); refine Sy.st_pure T (h := ?_); clear T; intro ac T))
    | ((with_reducible refine Sy.is_cond ?_); (refine Sy.st_true T (h := ?_)))
    | (with_reducible refine wpList_nil ?_)
    | (with_reducible refine wp_region_lit ?_)
    | (with_reducible refine wp_block ?_)
    | (with_reducible refine wp_skip ?_)
    | ((with_reducible refine wp_seq_k ?_); intro _ _)
    | (go_at_K; go_step)
    | (simp only [Exit.then, Exit.inBlock, ↓reduceIte, Nat.reduceEqDiff])
    | ((with_reducible refine Sy.is_drawn (id := 8) ?_); refine Sy.sx_region F [] (.t 0 (.t 1 (.t 2 (.t 3 (.t 4 (.t 5 (.t 6 (.h 7 (.t 8 (.t 9 (.t 10 (.t 11 (.t 12 (.t 13 (.t 14 (.t 15 (.t 16 (.h 17 (.t 18 (.t 19 (.t 20 (.t 21 (.t 22 (.t 23 (.t 24 (.t 25 (.t 26 (.t 27 (.t 28 (.t 29 (.t 30 (.t 31 (.t 32 (.t 33 (.t 34 (.t 35 (.t 36 (.t 37 (.t 38 (.t 39 .e)))))))))))))))))))))))))))))))))))))))) [] (by kernel_rfl) ?_; (clear F; intro w F))
    | ((refine Sy.sx_plain (h := ?_)); (first
    | ((with_reducible refine Sy.ux_load ?_); (first
    | refine Sy.sx_val (Sy.rx_loadOne T F) T rfl ?_
    | refine Sy.sx_val (Sy.rx_oldOne T F) T rfl ?_); clear T; intro ac T)
    | (refine Sy.sx_pure T (h := ?_); clear T; intro ac T)); show Sy.wpUx _ _ _ _ _ _ _ _ _))
        refine Sy.sx_callV0 rfl T F (hc := below_any _ _ _ (not_t s1)) (h := ?_); (clear T F; intro ac w T F)
        repeat (first
    | (((with_reducible refine Sy.is_op ?_); refine Sy.st_pure T (h := ?_); clear T; intro ac T))
    | ((with_reducible refine Sy.is_cond ?_); (refine Sy.st_true T (h := ?_)))
    | (with_reducible refine wpList_nil ?_)
    | (with_reducible refine wp_region_lit ?_)
    | (with_reducible refine wp_ret ?_)
    | ((with_reducible refine wp_seq_k ?_); intro _ _)
    | (go_at_K; go_step)
    | (simp only [Exit.then, Exit.inBlock, ↓reduceIte, Nat.reduceEqDiff])
    | ((refine Sy.sx_plain (h := ?_)); ((refine Sy.sx_pure T (h := ?_); clear T; intro ac T)); show Sy.wpUx _ _ _ _ _ _ _ _ _)
    | ((first
    | refine Sy.sx_unguard (T := T) (h := ?_)
    | refine Sy.sx_unguardH (T := T) (h := ?_)); clear T; intro ac T)
    | (with_reducible refine Sy.sx_nil ?_)
    | (with_reducible refine Sy.sx_end ?_))
        ((try simp only [Exit.inBlock, Exit.then]); refine Sy.st_ret1 T F rfl (by repeat (first | exact Sy.ResV.nil | apply Sy.ResV.tmp rfl | apply Sy.ResV.row rfl rfl rfl (by repeat (first | exact Sy.Take.here | apply Sy.Take.there)) (by rfl) | apply Sy.ResV.one rfl rfl rfl (by repeat (first | exact Sy.Take.here | apply Sy.Take.there)) (by rfl))) ?_)
        exact retBb F (by rw [hfin, hgo]; rfl)
      · have hb : badS vars (prevAt r.sets k) r.sets[k] = true := by unfold badS; rw [s1, s2]; cases leP (prevAt r.sets k) r.sets[k].var <;> rfl
        rw [sets_no hlt hb] at hgo
        repeat (first
    | (((with_reducible refine Sy.is_op ?_); refine Sy.st_pure T (h := ?_); clear T; intro ac T))
    | ((with_reducible refine Sy.is_cond ?_); (refine Sy.st_true T (h := ?_)))
    | (with_reducible refine wpList_nil ?_)
    | (with_reducible refine wp_region_lit ?_)
    | (with_reducible refine wp_block ?_)
    | (with_reducible refine wp_skip ?_)
    | ((with_reducible refine wp_seq_k ?_); intro _ _)
    | (go_at_K; go_step)
    | (simp only [Exit.then, Exit.inBlock, ↓reduceIte, Nat.reduceEqDiff])
    | ((with_reducible refine Sy.is_drawn (id := 8) ?_); refine Sy.sx_region F [] (.t 0 (.t 1 (.t 2 (.t 3 (.t 4 (.t 5 (.t 6 (.h 7 (.t 8 (.t 9 (.t 10 (.t 11 (.t 12 (.t 13 (.t 14 (.t 15 (.t 16 (.h 17 (.t 18 (.t 19 (.t 20 (.t 21 (.t 22 (.t 23 (.t 24 (.t 25 (.t 26 (.t 27 (.t 28 (.t 29 (.t 30 (.t 31 (.t 32 (.t 33 (.t 34 (.t 35 (.t 36 (.t 37 (.t 38 (.t 39 .e)))))))))))))))))))))))))))))))))))))))) [] (by kernel_rfl) ?_; (clear F; intro w F))
    | ((refine Sy.sx_plain (h := ?_)); (first
    | ((with_reducible refine Sy.ux_load ?_); (first
    | refine Sy.sx_val (Sy.rx_loadOne T F) T rfl ?_
    | refine Sy.sx_val (Sy.rx_oldOne T F) T rfl ?_); clear T; intro ac T)
    | (refine Sy.sx_pure T (h := ?_); clear T; intro ac T)); show Sy.wpUx _ _ _ _ _ _ _ _ _))
        refine Sy.sx_callV0 rfl T F (hc := below_any _ _ _ (not_f s1)) (h := ?_); (clear T F; intro ac w T F)
        repeat (((first
    | refine Sy.sx_plain (h := ?_)
    | refine Sy.sx_guard (T := T) (h := ?_)); (first
    | ((with_reducible refine Sy.ux_load ?_); (first
    | refine Sy.sx_val (Sy.rx_loadOne T F) T rfl ?_
    | refine Sy.sx_val (Sy.rx_oldOne T F) T rfl ?_); clear T; intro ac T)
    | (refine Sy.sx_pure T (h := ?_); clear T; intro ac T)); show Sy.wpUx _ _ _ _ _ _ _ _ _))
        have G := exMayR w (cap := c1) (htk.sub F.sub) (not_t s2); refine Sy.sx_callVG rfl T F (hc := G) (h := ?_); (clear T F G; intro ac w T F)
        repeat (first
    | (((with_reducible refine Sy.is_op ?_); refine Sy.st_pure T (h := ?_); clear T; intro ac T))
    | ((with_reducible refine Sy.is_cond ?_); (refine Sy.st_true T (h := ?_)))
    | (with_reducible refine wpList_nil ?_)
    | (with_reducible refine wp_region_lit ?_)
    | (with_reducible refine wp_ret ?_)
    | ((with_reducible refine wp_seq_k ?_); intro _ _)
    | (go_at_K; go_step)
    | (simp only [Exit.then, Exit.inBlock, ↓reduceIte, Nat.reduceEqDiff])
    | ((first
    | refine Sy.sx_plain (h := ?_)
    | refine Sy.sx_guard (T := T) (h := ?_)); ((refine Sy.sx_pure T (h := ?_); clear T; intro ac T)); show Sy.wpUx _ _ _ _ _ _ _ _ _)
    | ((refine Sy.sx_unguard (T := T) (h := ?_)); clear T; intro ac T)
    | (with_reducible refine Sy.sx_nil ?_)
    | (with_reducible refine Sy.sx_end ?_))
        ((try simp only [Exit.inBlock, Exit.then]); refine Sy.st_ret1 T F rfl (by repeat (first | exact Sy.ResV.nil | apply Sy.ResV.tmp rfl | apply Sy.ResV.row rfl rfl rfl (by repeat (first | exact Sy.Take.here | apply Sy.Take.there)) (by rfl) | apply Sy.ResV.one rfl rfl rfl (by repeat (first | exact Sy.Take.here | apply Sy.Take.there)) (by rfl))) ?_)
        exact retBb F (by rw [hfin, hgo]; rfl)
      · have hb : badS vars (prevAt r.sets k) r.sets[k] = true := by unfold badS; rw [s1, s2, s3]; rfl
        rw [sets_no hlt hb] at hgo
        rcases hkk with ⟨-, q2⟩ | ⟨q1, pv, q2, q3, q4, q5⟩
        · rw [q2] at s3; cases s3
        rw [q5] at s3
        repeat (first
    | (((with_reducible refine Sy.is_op ?_); refine Sy.st_pure T (h := ?_); clear T; intro ac T))
    | ((with_reducible refine Sy.is_cond ?_); (refine Sy.st_true T (h := ?_)))
    | (with_reducible refine wpList_nil ?_)
    | (with_reducible refine wp_region_lit ?_)
    | (with_reducible refine wp_block ?_)
    | (with_reducible refine wp_skip ?_)
    | ((with_reducible refine wp_seq_k ?_); intro _ _)
    | (go_at_K; go_step)
    | (simp only [Exit.then, Exit.inBlock, ↓reduceIte, Nat.reduceEqDiff])
    | ((with_reducible refine Sy.is_drawn (id := 8) ?_); refine Sy.sx_region F [] (.t 0 (.t 1 (.t 2 (.t 3 (.t 4 (.t 5 (.t 6 (.h 7 (.t 8 (.t 9 (.t 10 (.t 11 (.t 12 (.t 13 (.t 14 (.t 15 (.t 16 (.h 17 (.t 18 (.t 19 (.t 20 (.t 21 (.t 22 (.t 23 (.t 24 (.t 25 (.t 26 (.t 27 (.t 28 (.t 29 (.t 30 (.t 31 (.t 32 (.t 33 (.t 34 (.t 35 (.t 36 (.t 37 (.t 38 (.t 39 .e)))))))))))))))))))))))))))))))))))))))) [] (by kernel_rfl) ?_; (clear F; intro w F))
    | ((refine Sy.sx_plain (h := ?_)); (first
    | ((with_reducible refine Sy.ux_load ?_); (first
    | refine Sy.sx_val (Sy.rx_loadOne T F) T rfl ?_
    | refine Sy.sx_val (Sy.rx_oldOne T F) T rfl ?_); clear T; intro ac T)
    | (refine Sy.sx_pure T (h := ?_); clear T; intro ac T)); show Sy.wpUx _ _ _ _ _ _ _ _ _))
        refine Sy.sx_callV0 rfl T F (hc := below_any _ _ _ (not_f s1)) (h := ?_); (clear T F; intro ac w T F)
        repeat (((first
    | refine Sy.sx_plain (h := ?_)
    | refine Sy.sx_guard (T := T) (h := ?_)); (first
    | ((with_reducible refine Sy.ux_load ?_); (first
    | refine Sy.sx_val (Sy.rx_loadOne T F) T rfl ?_
    | refine Sy.sx_val (Sy.rx_oldOne T F) T rfl ?_); clear T; intro ac T)
    | (refine Sy.sx_pure T (h := ?_); clear T; intro ac T)); show Sy.wpUx _ _ _ _ _ _ _ _ _))
        have G := exMayR w (cap := c1) (htk.sub F.sub) (not_f s2); refine Sy.sx_callVG rfl T F (hc := G) (h := ?_); (clear T F G; intro ac w T F)
        repeat (first
    | (((with_reducible refine Sy.is_op ?_); refine Sy.st_pure T (h := ?_); clear T; intro ac T))
    | ((with_reducible refine Sy.is_cond ?_); (refine Sy.st_true T (h := ?_)))
    | (with_reducible refine wpList_nil ?_)
    | (with_reducible refine wp_region_lit ?_)
    | (with_reducible refine wp_ret ?_)
    | ((with_reducible refine wp_seq_k ?_); intro _ _)
    | (go_at_K; go_step)
    | (simp only [Exit.then, Exit.inBlock, ↓reduceIte, Nat.reduceEqDiff])
    | ((first
    | refine Sy.sx_plain (h := ?_)
    | refine Sy.sx_guard (T := T) (h := ?_)); (first
    | ((with_reducible refine Sy.ux_load ?_); (first
    | refine Sy.sx_val (Sy.rx_loadOne T F) T rfl ?_
    | refine Sy.sx_val (Sy.rx_oldOne T F) T rfl ?_); clear T; intro ac T)
    | (refine Sy.sx_pure T (h := ?_); clear T; intro ac T)); show Sy.wpUx _ _ _ _ _ _ _ _ _)
    | (with_reducible refine Sy.sx_nil ?_)
    | (with_reducible refine Sy.sx_end ?_))
        ((try simp only [Exit.inBlock, Exit.then]); refine Sy.st_ret1 T F rfl (by repeat (first | exact Sy.ResV.nil | apply Sy.ResV.tmp rfl | apply Sy.ResV.row rfl rfl rfl (by repeat (first | exact Sy.Take.here | apply Sy.Take.there)) (by rfl) | apply Sy.ResV.one rfl rfl rfl (by repeat (first | exact Sy.Take.here | apply Sy.Take.there)) (by rfl))) ?_)
        exact retBb F (by rw [hfin, hgo]; rfl)
      · have hb : badS vars (prevAt r.sets k) r.sets[k] = false := by unfold badS; rw [s1, s2, s3]; rfl
        rw [sets_go hlt hb] at hgo
        rcases hkk with ⟨q1, -⟩ | ⟨q1, pv, q2, q3, q4, q5⟩
        · repeat (first
    | (((with_reducible refine Sy.is_op ?_); refine Sy.st_pure T (h := ?_); clear T; intro ac T))
    | ((with_reducible refine Sy.is_cond ?_); (refine Sy.st_true T (h := ?_)))
    | (with_reducible refine wpList_nil ?_)
    | (with_reducible refine wp_region_lit ?_)
    | (with_reducible refine wp_block ?_)
    | (with_reducible refine wp_skip ?_)
    | ((with_reducible refine wp_seq_k ?_); intro _ _)
    | (go_at_K; go_step)
    | (simp only [Exit.then, Exit.inBlock, ↓reduceIte, Nat.reduceEqDiff])
    | ((with_reducible refine Sy.is_drawn (id := 8) ?_); refine Sy.sx_region F [] (.t 0 (.t 1 (.t 2 (.t 3 (.t 4 (.t 5 (.t 6 (.h 7 (.t 8 (.t 9 (.t 10 (.t 11 (.t 12 (.t 13 (.t 14 (.t 15 (.t 16 (.h 17 (.t 18 (.t 19 (.t 20 (.t 21 (.t 22 (.t 23 (.t 24 (.t 25 (.t 26 (.t 27 (.t 28 (.t 29 (.t 30 (.t 31 (.t 32 (.t 33 (.t 34 (.t 35 (.t 36 (.t 37 (.t 38 (.t 39 .e)))))))))))))))))))))))))))))))))))))))) [] (by kernel_rfl) ?_; (clear F; intro w F))
    | ((refine Sy.sx_plain (h := ?_)); (first
    | ((with_reducible refine Sy.ux_load ?_); (first
    | refine Sy.sx_val (Sy.rx_loadOne T F) T rfl ?_
    | refine Sy.sx_val (Sy.rx_oldOne T F) T rfl ?_); clear T; intro ac T)
    | (refine Sy.sx_pure T (h := ?_); clear T; intro ac T)); show Sy.wpUx _ _ _ _ _ _ _ _ _))
          refine Sy.sx_callV0 rfl T F (hc := below_any _ _ _ (not_f s1)) (h := ?_); (clear T F; intro ac w T F)
          repeat (((first
    | refine Sy.sx_plain (h := ?_)
    | refine Sy.sx_guard (T := T) (h := ?_)); (first
    | ((with_reducible refine Sy.ux_load ?_); (first
    | refine Sy.sx_val (Sy.rx_loadOne T F) T rfl ?_
    | refine Sy.sx_val (Sy.rx_oldOne T F) T rfl ?_); clear T; intro ac T)
    | (refine Sy.sx_pure T (h := ?_); clear T; intro ac T)); show Sy.wpUx _ _ _ _ _ _ _ _ _))
          have G := exMayR w (cap := c1) (htk.sub F.sub) (not_f s2); refine Sy.sx_callVG rfl T F (hc := G) (h := ?_); (clear T F G; intro ac w T F)
          repeat (first
    | (((with_reducible refine Sy.is_op ?_); refine Sy.st_pure T (h := ?_); clear T; intro ac T))
    | ((with_reducible refine Sy.is_cond ?_); (refine Sy.st_false T (h := ?_)))
    | (with_reducible refine wpList_nil ?_)
    | (with_reducible refine wp_region_lit ?_)
    | (with_reducible refine wp_skip ?_)
    | (go_at_K; go_step)
    | (simp only [Exit.then, Exit.inBlock, ↓reduceIte, Nat.reduceEqDiff])
    | ((first
    | refine Sy.sx_plain (h := ?_)
    | refine Sy.sx_guard (T := T) (h := ?_)); ((refine Sy.sx_pure T (h := ?_); clear T; intro ac T)); show Sy.wpUx _ _ _ _ _ _ _ _ _)
    | ((refine Sy.sx_unguard (T := T) (h := ?_)); clear T; intro ac T)
    | (with_reducible refine Sy.sx_nil ?_)
    | (with_reducible refine Sy.sx_end ?_))
          exact Sy.handed hJ (k := r.sets.length - (k + 1)) (by omega) ⟨k + 1, rfl, by omega, hgo, (T.part (by repeat (first | exact Sy.Part.nil | apply Sy.Part.cons rfl))), (F.sel (by repeat (first | exact Sy.Sel.nil | apply Sy.Sel.cons (by repeat (first | exact Sy.Take.here | apply Sy.Take.there)))))⟩
        · rw [q5] at s3
          repeat (first
    | (((with_reducible refine Sy.is_op ?_); refine Sy.st_pure T (h := ?_); clear T; intro ac T))
    | ((with_reducible refine Sy.is_cond ?_); (refine Sy.st_true T (h := ?_)))
    | (with_reducible refine wpList_nil ?_)
    | (with_reducible refine wp_region_lit ?_)
    | (with_reducible refine wp_block ?_)
    | (with_reducible refine wp_skip ?_)
    | ((with_reducible refine wp_seq_k ?_); intro _ _)
    | (go_at_K; go_step)
    | (simp only [Exit.then, Exit.inBlock, ↓reduceIte, Nat.reduceEqDiff])
    | ((with_reducible refine Sy.is_drawn (id := 8) ?_); refine Sy.sx_region F [] (.t 0 (.t 1 (.t 2 (.t 3 (.t 4 (.t 5 (.t 6 (.h 7 (.t 8 (.t 9 (.t 10 (.t 11 (.t 12 (.t 13 (.t 14 (.t 15 (.t 16 (.h 17 (.t 18 (.t 19 (.t 20 (.t 21 (.t 22 (.t 23 (.t 24 (.t 25 (.t 26 (.t 27 (.t 28 (.t 29 (.t 30 (.t 31 (.t 32 (.t 33 (.t 34 (.t 35 (.t 36 (.t 37 (.t 38 (.t 39 .e)))))))))))))))))))))))))))))))))))))))) [] (by kernel_rfl) ?_; (clear F; intro w F))
    | ((refine Sy.sx_plain (h := ?_)); (first
    | ((with_reducible refine Sy.ux_load ?_); (first
    | refine Sy.sx_val (Sy.rx_loadOne T F) T rfl ?_
    | refine Sy.sx_val (Sy.rx_oldOne T F) T rfl ?_); clear T; intro ac T)
    | (refine Sy.sx_pure T (h := ?_); clear T; intro ac T)); show Sy.wpUx _ _ _ _ _ _ _ _ _))
          refine Sy.sx_callV0 rfl T F (hc := below_any _ _ _ (not_f s1)) (h := ?_); (clear T F; intro ac w T F)
          repeat (((first
    | refine Sy.sx_plain (h := ?_)
    | refine Sy.sx_guard (T := T) (h := ?_)); (first
    | ((with_reducible refine Sy.ux_load ?_); (first
    | refine Sy.sx_val (Sy.rx_loadOne T F) T rfl ?_
    | refine Sy.sx_val (Sy.rx_oldOne T F) T rfl ?_); clear T; intro ac T)
    | (refine Sy.sx_pure T (h := ?_); clear T; intro ac T)); show Sy.wpUx _ _ _ _ _ _ _ _ _))
          have G := exMayR w (cap := c1) (htk.sub F.sub) (not_f s2); refine Sy.sx_callVG rfl T F (hc := G) (h := ?_); (clear T F G; intro ac w T F)
          repeat (first
    | (((with_reducible refine Sy.is_op ?_); refine Sy.st_pure T (h := ?_); clear T; intro ac T))
    | ((with_reducible refine Sy.is_cond ?_); (refine Sy.st_false T (h := ?_)))
    | (with_reducible refine wpList_nil ?_)
    | (with_reducible refine wp_region_lit ?_)
    | (with_reducible refine wp_skip ?_)
    | (go_at_K; go_step)
    | (simp only [Exit.then, Exit.inBlock, ↓reduceIte, Nat.reduceEqDiff])
    | ((first
    | refine Sy.sx_plain (h := ?_)
    | refine Sy.sx_guard (T := T) (h := ?_)); (first
    | ((with_reducible refine Sy.ux_load ?_); (first
    | refine Sy.sx_val (Sy.rx_loadOne T F) T rfl ?_
    | refine Sy.sx_val (Sy.rx_oldOne T F) T rfl ?_); clear T; intro ac T)
    | (refine Sy.sx_pure T (h := ?_); clear T; intro ac T)); show Sy.wpUx _ _ _ _ _ _ _ _ _)
    | (with_reducible refine Sy.sx_nil ?_)
    | (with_reducible refine Sy.sx_end ?_))
          exact Sy.handed hJ (k := r.sets.length - (k + 1)) (by omega) ⟨k + 1, rfl, by omega, hgo, (T.part (by repeat (first | exact Sy.Part.nil | apply Sy.Part.cons rfl))), (F.sel (by repeat (first | exact Sy.Sel.nil | apply Sy.Sel.cons (by repeat (first | exact Sy.Take.here | apply Sy.Take.there)))))⟩
    obtain rfl : k = r.sets.length := by omega
    have v1 : decide ((r.sets.length : Int) < (r.sets.length : Int)) = false := decide_eq_false (by omega)
    rw [List.drop_length, setsS] at hgo
    rw [hgo, Bool.true_and] at hfin
    repeat (first
    | (((with_reducible refine Sy.is_load ?_); (refine Sy.st_loadOne T F (h := ?_)); clear T; intro ac T))
    | (((with_reducible refine Sy.is_op ?_); refine Sy.st_pure T (h := ?_); clear T; intro ac T))
    | ((with_reducible refine Sy.is_cond ?_); (refine Sy.st_false T (h := ?_)))
    | (with_reducible refine wpList_nil ?_)
    | (with_reducible refine wp_region_lit ?_)
    | (with_reducible refine wp_block ?_)
    | (with_reducible refine wp_exit ?_)
    | ((with_reducible refine wp_seq_k ?_); intro _ _)
    | (go_at_K; go_step)
    | (simp only [Exit.then, Exit.inBlock, ↓reduceIte, Nat.reduceEqDiff]))
    clear hgo hlt v1 hk hJ hK
    refine Sy.loop1 (fun g3 n ac w' => ∃ (k : Nat), n = r.emits.length - k ∧ k ≤ r.emits.length ∧ (r.emits.take k).any (badE vars) = false ∧
      Sy.Tm ac 132 [(2, .int .i64 vars), (3, .pointer (some ⟨g3, 0, none⟩)), (6, .bool false), (106, .int .i64 (r.emits.length : Int)), (107, .int .i64 (k : Int))] ∧
      Sy.Mem ⟨w0, [], w0⟩ w0 [⟨g3, ruleCs r ⟨ga, gc, sa, sc, ea, ec⟩, 76⟩] w') r.emits.length (by exact ⟨0, rfl, Nat.zero_le _, rfl, (T.part (by repeat (first | exact Sy.Part.nil | apply Sy.Part.cons rfl))), (F.sel (by repeat (first | exact Sy.Sel.nil | apply Sy.Sel.cons (by repeat (first | exact Sy.Take.here | apply Sy.Take.there)))))⟩) ?_
    clear T F
    intro n ac w hI J K hJ hK
    obtain ⟨k, rfl, hk, hno, T, F⟩ := hI
    by_cases hlt : k < r.emits.length
    · have v1 : decide ((k : Int) < (r.emits.length : Int)) = true := decide_eq_true (by omega)
      have v2 := i64_up hlt hml2
      obtain ⟨b, o, cs, hsa, hcl, hat, a1, c1, rfl, h8, hia, htk⟩ := rows_get hem hlt
      subst hsa
      have hx : decide (((r.emits[k].target : Nat) : Int) > 15) = decide (((r.emits[k].target : Nat) : Int) ≥ 16) := by rw [decide_eq_decide]; omega
      rcases or3 (decide (((r.emits[k].target : Nat) : Int) ≥ 16)) (!inS r.emits[k].action 32) (!Ex.mayS r.emits[k].arg vars) with s1 | ⟨s1, s2⟩ | ⟨s1, s2, s3⟩ | ⟨s1, s2, s3⟩
      all_goals rw [s1] at hx
      · have hb : badE vars r.emits[k] = true := by unfold badE; rw [s1]; rfl
        repeat (first
    | (((with_reducible refine Sy.is_guard ?_); ((refine Sy.st_unguard T (h := ?_); clear T; intro ac T))))
    | (((with_reducible refine Sy.is_load ?_); (first
    | refine Sy.st_loadOne T F (h := ?_)
    | refine Sy.st_oldAgg T F (h := ?_)); clear T; intro ac T))
    | (((with_reducible refine Sy.is_store ?_); (refine Sy.st_storeAll T F (h := ?_)); clear T F; intro ac w T F))
    | (((with_reducible refine Sy.is_alloc ?_); refine Sy.st_alloc T F (h := ?_); clear T F; intro ac g w T F))
    | (((with_reducible refine Sy.is_op ?_); refine Sy.st_pure T (h := ?_); clear T; intro ac T))
    | ((with_reducible refine Sy.is_cond ?_); (refine Sy.st_true T (h := ?_)))
    | (with_reducible refine wpList_nil ?_)
    | (with_reducible refine wp_region_lit ?_)
    | (with_reducible refine wp_block ?_)
    | (with_reducible refine wp_skip ?_)
    | (with_reducible refine wp_ret ?_)
    | ((with_reducible refine wp_seq_k ?_); intro _ _)
    | (go_at_K; go_step)
    | (simp only [Exit.then, Exit.inBlock, ↓reduceIte, Nat.reduceEqDiff]))
        ((try simp only [Exit.inBlock, Exit.then]); refine Sy.st_ret1 T F rfl (by repeat (first | exact Sy.ResV.nil | apply Sy.ResV.tmp rfl | apply Sy.ResV.row rfl rfl rfl (by repeat (first | exact Sy.Take.here | apply Sy.Take.there)) (by rfl) | apply Sy.ResV.one rfl rfl rfl (by repeat (first | exact Sy.Take.here | apply Sy.Take.there)) (by rfl))) ?_)
        exact retBb F (by rw [hfin, any_hit _ _ k hlt hb]; rfl)
      · have hb : badE vars r.emits[k] = true := by unfold badE; rw [s1, s2]; rfl
        repeat (first
    | (((with_reducible refine Sy.is_guard ?_); (refine Sy.st_guard T (h := ?_))))
    | (((with_reducible refine Sy.is_load ?_); (first
    | refine Sy.st_loadOne T F (h := ?_)
    | refine Sy.st_oldAgg T F (h := ?_)); clear T; intro ac T))
    | (((with_reducible refine Sy.is_store ?_); (refine Sy.st_storeAll T F (h := ?_)); clear T F; intro ac w T F))
    | (((with_reducible refine Sy.is_alloc ?_); refine Sy.st_alloc T F (h := ?_); clear T F; intro ac g w T F))
    | (((with_reducible refine Sy.is_op ?_); refine Sy.st_pure T (h := ?_); clear T; intro ac T))
    | ((with_reducible refine Sy.is_cond ?_); (refine Sy.st_true T (h := ?_)))
    | (with_reducible refine wpList_nil ?_)
    | (with_reducible refine wp_region_lit ?_)
    | (with_reducible refine wp_block ?_)
    | (with_reducible refine wp_skip ?_)
    | ((with_reducible refine wp_seq_k ?_); intro _ _)
    | (go_at_K; go_step)
    | (simp only [Exit.then, Exit.inBlock, ↓reduceIte, Nat.reduceEqDiff]))
        refine Sy.st_callV0 T F (hc := below_any _ _ _ (not_t s2)) (h := ?_); (clear T F; intro ac w T F)
        repeat (first
    | (((with_reducible refine Sy.is_guard ?_); (first
    | refine Sy.st_guard T (h := ?_)
    | (refine Sy.st_unguard T (h := ?_); clear T; intro ac T))))
    | (((with_reducible refine Sy.is_op ?_); refine Sy.st_pure T (h := ?_); clear T; intro ac T))
    | ((with_reducible refine Sy.is_cond ?_); (refine Sy.st_true T (h := ?_)))
    | (with_reducible refine wpList_nil ?_)
    | (with_reducible refine wp_region_lit ?_)
    | (with_reducible refine wp_ret ?_)
    | ((with_reducible refine wp_seq_k ?_); intro _ _)
    | (go_at_K; go_step)
    | (simp only [Exit.then, Exit.inBlock, ↓reduceIte, Nat.reduceEqDiff]))
        ((try simp only [Exit.inBlock, Exit.then]); refine Sy.st_ret1 T F rfl (by repeat (first | exact Sy.ResV.nil | apply Sy.ResV.tmp rfl | apply Sy.ResV.row rfl rfl rfl (by repeat (first | exact Sy.Take.here | apply Sy.Take.there)) (by rfl) | apply Sy.ResV.one rfl rfl rfl (by repeat (first | exact Sy.Take.here | apply Sy.Take.there)) (by rfl))) ?_)
        exact retBb F (by rw [hfin, any_hit _ _ k hlt hb]; rfl)
      · have hb : badE vars r.emits[k] = true := by unfold badE; rw [s1, s2, s3]; rfl
        repeat (first
    | (((with_reducible refine Sy.is_guard ?_); (refine Sy.st_guard T (h := ?_))))
    | (((with_reducible refine Sy.is_load ?_); (first
    | refine Sy.st_loadOne T F (h := ?_)
    | refine Sy.st_oldAgg T F (h := ?_)); clear T; intro ac T))
    | (((with_reducible refine Sy.is_store ?_); (refine Sy.st_storeAll T F (h := ?_)); clear T F; intro ac w T F))
    | (((with_reducible refine Sy.is_alloc ?_); refine Sy.st_alloc T F (h := ?_); clear T F; intro ac g w T F))
    | (((with_reducible refine Sy.is_op ?_); refine Sy.st_pure T (h := ?_); clear T; intro ac T))
    | ((with_reducible refine Sy.is_cond ?_); (refine Sy.st_true T (h := ?_)))
    | (with_reducible refine wpList_nil ?_)
    | (with_reducible refine wp_region_lit ?_)
    | (with_reducible refine wp_block ?_)
    | (with_reducible refine wp_skip ?_)
    | ((with_reducible refine wp_seq_k ?_); intro _ _)
    | (go_at_K; go_step)
    | (simp only [Exit.then, Exit.inBlock, ↓reduceIte, Nat.reduceEqDiff]))
        refine Sy.st_callV0 T F (hc := below_any _ _ _ (not_f s2)) (h := ?_); (clear T F; intro ac w T F)
        repeat (first
    | (((with_reducible refine Sy.is_guard ?_); (refine Sy.st_guard T (h := ?_))))
    | (((with_reducible refine Sy.is_load ?_); (refine Sy.st_loadOne T F (h := ?_)); clear T; intro ac T))
    | (((with_reducible refine Sy.is_op ?_); refine Sy.st_pure T (h := ?_); clear T; intro ac T)))
        refine Sy.st_callV0 T F (hc := exMayR _ (htk.sub F.sub) (not_t s3)) (h := ?_); (clear T F; intro ac w T F)
        repeat (first
    | (((with_reducible refine Sy.is_guard ?_); (refine Sy.st_guard T (h := ?_))))
    | (((with_reducible refine Sy.is_op ?_); refine Sy.st_pure T (h := ?_); clear T; intro ac T))
    | ((with_reducible refine Sy.is_cond ?_); (refine Sy.st_true T (h := ?_)))
    | (with_reducible refine wpList_nil ?_)
    | (with_reducible refine wp_region_lit ?_)
    | (with_reducible refine wp_ret ?_)
    | ((with_reducible refine wp_seq_k ?_); intro _ _)
    | (go_at_K; go_step)
    | (simp only [Exit.then, Exit.inBlock, ↓reduceIte, Nat.reduceEqDiff]))
        ((try simp only [Exit.inBlock, Exit.then]); refine Sy.st_ret1 T F rfl (by repeat (first | exact Sy.ResV.nil | apply Sy.ResV.tmp rfl | apply Sy.ResV.row rfl rfl rfl (by repeat (first | exact Sy.Take.here | apply Sy.Take.there)) (by rfl) | apply Sy.ResV.one rfl rfl rfl (by repeat (first | exact Sy.Take.here | apply Sy.Take.there)) (by rfl))) ?_)
        exact retBb F (by rw [hfin, any_hit _ _ k hlt hb]; rfl)
      · have hb : badE vars r.emits[k] = false := by unfold badE; rw [s1, s2, s3]; rfl
        repeat (first
    | (((with_reducible refine Sy.is_guard ?_); (refine Sy.st_guard T (h := ?_))))
    | (((with_reducible refine Sy.is_load ?_); (first
    | refine Sy.st_loadOne T F (h := ?_)
    | refine Sy.st_oldAgg T F (h := ?_)); clear T; intro ac T))
    | (((with_reducible refine Sy.is_store ?_); (refine Sy.st_storeAll T F (h := ?_)); clear T F; intro ac w T F))
    | (((with_reducible refine Sy.is_alloc ?_); refine Sy.st_alloc T F (h := ?_); clear T F; intro ac g w T F))
    | (((with_reducible refine Sy.is_op ?_); refine Sy.st_pure T (h := ?_); clear T; intro ac T))
    | ((with_reducible refine Sy.is_cond ?_); (refine Sy.st_true T (h := ?_)))
    | (with_reducible refine wpList_nil ?_)
    | (with_reducible refine wp_region_lit ?_)
    | (with_reducible refine wp_block ?_)
    | (with_reducible refine wp_skip ?_)
    | ((with_reducible refine wp_seq_k ?_); intro _ _)
    | (go_at_K; go_step)
    | (simp only [Exit.then, Exit.inBlock, ↓reduceIte, Nat.reduceEqDiff]))
        refine Sy.st_callV0 T F (hc := below_any _ _ _ (not_f s2)) (h := ?_); (clear T F; intro ac w T F)
        repeat (first
    | (((with_reducible refine Sy.is_guard ?_); (refine Sy.st_guard T (h := ?_))))
    | (((with_reducible refine Sy.is_load ?_); (refine Sy.st_loadOne T F (h := ?_)); clear T; intro ac T))
    | (((with_reducible refine Sy.is_op ?_); refine Sy.st_pure T (h := ?_); clear T; intro ac T)))
        refine Sy.st_callV0 T F (hc := exMayR _ (htk.sub F.sub) (not_f s3)) (h := ?_); (clear T F; intro ac w T F)
        repeat (first
    | (((with_reducible refine Sy.is_guard ?_); (refine Sy.st_guard T (h := ?_))))
    | (((with_reducible refine Sy.is_op ?_); refine Sy.st_pure T (h := ?_); clear T; intro ac T))
    | ((with_reducible refine Sy.is_cond ?_); (refine Sy.st_false T (h := ?_)))
    | (with_reducible refine wpList_nil ?_)
    | (with_reducible refine wp_region_lit ?_)
    | (with_reducible refine wp_skip ?_)
    | (go_at_K; go_step)
    | (simp only [Exit.then, Exit.inBlock, ↓reduceIte, Nat.reduceEqDiff]))
        exact Sy.handed hJ (k := r.emits.length - (k + 1)) (by omega) ⟨k + 1, rfl, by omega, any_up hlt hno hb, (T.part (by repeat (first | exact Sy.Part.nil | apply Sy.Part.cons rfl))), (F.sel (by repeat (first | exact Sy.Sel.nil | apply Sy.Sel.cons (by repeat (first | exact Sy.Take.here | apply Sy.Take.there)))))⟩
    obtain rfl : k = r.emits.length := by omega
    have v1 : decide ((r.emits.length : Int) < (r.emits.length : Int)) = false := decide_eq_false (by omega)
    rw [List.take_length] at hno
    repeat (first
    | (((with_reducible refine Sy.is_op ?_); refine Sy.st_pure T (h := ?_); clear T; intro ac T))
    | ((with_reducible refine Sy.is_cond ?_); (refine Sy.st_false T (h := ?_)))
    | (with_reducible refine wpList_nil ?_)
    | (with_reducible refine wp_region_lit ?_)
    | (with_reducible refine wp_exit ?_)
    | (with_reducible refine wp_ret ?_)
    | ((with_reducible refine wp_seq_k ?_); intro _ _)
    | (go_at_K; go_step)
    | (simp only [Exit.then, Exit.inBlock, ↓reduceIte, Nat.reduceEqDiff]))
    ((try simp only [Exit.inBlock, Exit.then]); refine Sy.st_ret1 T F rfl (by repeat (first | exact Sy.ResV.nil | apply Sy.ResV.tmp rfl | apply Sy.ResV.row rfl rfl rfl (by repeat (first | exact Sy.Take.here | apply Sy.Take.there)) (by rfl) | apply Sy.ResV.one rfl rfl rfl (by repeat (first | exact Sy.Take.here | apply Sy.Take.there)) (by rfl))) ?_)
    exact retBb F (by rw [hfin, hno]; rfl))
  clear hKo
  have hgd : ((r.guard.length : Int) == 0) = true ∧ decide ((r.guard.length : Int) > 0) = false ∨ ((r.guard.length : Int) == 0) = false ∧ decide ((r.guard.length : Int) > 0) = true := by
    by_cases h0 : r.guard.length = 0
    · exact .inl ⟨eqT (by omega), decide_eq_false (by omega)⟩
    · exact .inr ⟨eqF (by omega), decide_eq_true (by omega)⟩
  rcases hgd with ⟨u1, u2⟩ | ⟨u1, u2⟩
  · rw [u1] at T
    repeat (first
    | (((with_reducible refine Sy.is_guard ?_); ((refine Sy.st_unguard T (h := ?_); clear T; intro ac T))))
    | (((with_reducible refine Sy.is_op ?_); refine Sy.st_pure T (h := ?_); clear T; intro ac T))
    | ((with_reducible refine Sy.is_cond ?_); (refine Sy.st_false T (h := ?_)))
    | (with_reducible refine wpList_nil ?_)
    | (with_reducible refine wp_skip ?_)
    | (go_at_K; go_step)
    | (simp only [Exit.then, Exit.inBlock, ↓reduceIte, Nat.reduceEqDiff]))
    exact ⟨by rw [u2]; rfl, (T.part (by repeat (first | exact Sy.Part.nil | apply Sy.Part.cons rfl))), (F.sel (by repeat (first | exact Sy.Sel.nil | apply Sy.Sel.cons (by repeat (first | exact Sy.Take.here | apply Sy.Take.there)))))⟩
  · rw [u1] at T
    cases u3 : Ex.mayS r.guard vars with
    | true =>
      repeat (first
    | (((with_reducible refine Sy.is_guard ?_); (refine Sy.st_guard T (h := ?_))))
    | (((with_reducible refine Sy.is_load ?_); (refine Sy.st_loadOne T F (h := ?_)); clear T; intro ac T))
    | (((with_reducible refine Sy.is_op ?_); refine Sy.st_pure T (h := ?_); clear T; intro ac T)))
      refine Sy.st_callV0 T F (hc := exMayR _ (hg.sub F.sub) u3) (h := ?_); (clear T F; intro ac w T F)
      repeat (first
    | (((with_reducible refine Sy.is_guard ?_); (refine Sy.st_guard T (h := ?_))))
    | (((with_reducible refine Sy.is_op ?_); refine Sy.st_pure T (h := ?_); clear T; intro ac T))
    | ((with_reducible refine Sy.is_cond ?_); (refine Sy.st_false T (h := ?_)))
    | (with_reducible refine wpList_nil ?_)
    | (with_reducible refine wp_skip ?_)
    | (go_at_K; go_step)
    | (simp only [Exit.then, Exit.inBlock, ↓reduceIte, Nat.reduceEqDiff]))
      exact ⟨by rw [u3, u2]; rfl, (T.part (by repeat (first | exact Sy.Part.nil | apply Sy.Part.cons rfl))), (F.sel (by repeat (first | exact Sy.Sel.nil | apply Sy.Sel.cons (by repeat (first | exact Sy.Take.here | apply Sy.Take.there)))))⟩
    | false =>
      repeat (first
    | (((with_reducible refine Sy.is_guard ?_); (refine Sy.st_guard T (h := ?_))))
    | (((with_reducible refine Sy.is_load ?_); (refine Sy.st_loadOne T F (h := ?_)); clear T; intro ac T))
    | (((with_reducible refine Sy.is_op ?_); refine Sy.st_pure T (h := ?_); clear T; intro ac T)))
      refine Sy.st_callV0 T F (hc := exMayR _ (hg.sub F.sub) u3) (h := ?_); (clear T F; intro ac w T F)
      repeat (first
    | (((with_reducible refine Sy.is_guard ?_); (refine Sy.st_guard T (h := ?_))))
    | (((with_reducible refine Sy.is_op ?_); refine Sy.st_pure T (h := ?_); clear T; intro ac T))
    | ((with_reducible refine Sy.is_cond ?_); (refine Sy.st_true T (h := ?_)))
    | (with_reducible refine wpList_nil ?_)
    | (with_reducible refine wp_region_lit ?_)
    | (with_reducible refine wp_ret ?_)
    | ((with_reducible refine wp_seq_k ?_); intro _ _)
    | (go_at_K; go_step)
    | (simp only [Exit.then, Exit.inBlock, ↓reduceIte, Nat.reduceEqDiff]))
      ((try simp only [Exit.inBlock, Exit.then]); refine Sy.st_ret1 T F rfl (by repeat (first | exact Sy.ResV.nil | apply Sy.ResV.tmp rfl | apply Sy.ResV.row rfl rfl rfl (by repeat (first | exact Sy.Take.here | apply Sy.Take.there)) (by rfl) | apply Sy.ResV.one rfl rfl rfl (by repeat (first | exact Sy.Take.here | apply Sy.Take.there)) (by rfl))) ?_)
      exact retBb F (by rw [hfin, u2, u3]; rfl)
end Tb
end Go.Proofs.Ytniopkoaplkpkaa
namespace Go.Proofs.Ytniopkoaplkpkaa
open Go.RowKit
set_option linter.unusedVariables false
set_option linter.unusedSimpArgs false
namespace Tb
open Sy (RetV RetM Sub)
open Rg (and2 and3 and4 and5 and6 and7 and8 and9 or2 or3 or4 or5 or6 or7 retBb not_t not_f eqT eqF i64_up i64_wrap ClosB any_up any_hit)
theorem ruleR_any (w : World) (r : RuleD) (p : RuleA) (h : RuleAt w r p) (states vars : Int) {b : Bool} (hb : ruleS states vars r = b) :
    Calls Try.prog 86 #[.agg (ruleCs r p).toArray, .int .i64 states, .int .i64 vars] w (RetV w (.bool b)) := by
  subst hb
  cases hh : headS states r with
  | false =>
    have : ruleS states vars r = false := by unfold ruleS; rw [hh]; rfl
    rw [this]; exact ruleR_head w r p states vars hh
  | true => exact ruleR_rest w r p h states vars hh
set_option maxRecDepth 20000 in
set_option maxHeartbeats 1000000 in
theorem mayR_any (w0 : World) (t : TabD) (ta : Option Addr) (tc : Nat) (h : TabAt w0 t ta tc) {b : Bool} (hb : mayS t = b) : Calls Try.prog 43 #[.agg (tabCs t ta tc).toArray] w0 (RetV w0 (.bool b)) := by
  have F := Sy.Mem.start (Sub.refl w0)
  subst hb
  rcases or5 (decide (t.states < 1)) (decide (t.states > 32)) (decide (t.vars < 0)) (decide (t.vars > 8)) (decide ((t.rules.length : Int) > 32)) with t1 | ⟨t1, t2⟩ | ⟨t1, t2, t3⟩ | ⟨t1, t2, t3, t4⟩ | ⟨t1, t2, t3, t4, t5⟩ | ⟨t1, t2, t3, t4, t5⟩
  case inr.inr.inr.inr.inr =>
    have hfin : mayS t = !t.rules.any fun r => !ruleS t.states t.vars r := by unfold mayS; rw [t1, t2, t3, t4, t5]; rfl
    have hml : t.rules.length ≤ maxLen := h.rules.1
    have hru := h.rules
    refine Sy.enter Try.func43 rfl Try.ntmps43 rfl ?_; intro ac T; simp only [Sy.enum, Nat.zero_add, Nat.reduceAdd] at T
    repeat (first
    | (((with_reducible refine Sy.is_guard ?_); (refine Sy.st_guard T (h := ?_))))
    | (((with_reducible refine Sy.is_load ?_); (refine Sy.st_loadOne T F (h := ?_)); clear T; intro ac T))
    | (((with_reducible refine Sy.is_box ?_); (refine Sy.st_boxAgg T F (h := ?_)); clear T F; intro ac g w T F))
    | (((with_reducible refine Sy.is_op ?_); refine Sy.st_pure T (h := ?_); clear T; intro ac T))
    | ((with_reducible refine Sy.is_cond ?_); (refine Sy.st_false T (h := ?_)))
    | (with_reducible refine wpList_nil ?_)
    | (with_reducible refine wp_region_lit ?_)
    | (with_reducible refine wp_block ?_)
    | (with_reducible refine wp_skip ?_)
    | ((with_reducible refine wp_seq_k ?_); intro _ _)
    | (go_at_K; go_step)
    | (simp only [Exit.then, Exit.inBlock, ↓reduceIte, Nat.reduceEqDiff]))
    refine Sy.loop1 (fun g1 n ac w' => ∃ (k : Nat), n = t.rules.length - k ∧ k ≤ t.rules.length ∧ (t.rules.take k).any (fun r => !ruleS t.states t.vars r) = false ∧
      Sy.Tm ac 46 [(1, .pointer (some ⟨g1, 0, none⟩)), (2, .bool false), (30, .int .i64 (t.rules.length : Int)), (31, .int .i64 (k : Int))] ∧
      Sy.Mem ⟨w0, [], w0⟩ w0 [⟨g1, tabCs t ta tc, 24⟩] w') t.rules.length (by exact ⟨0, rfl, Nat.zero_le _, rfl, (T.part (by repeat (first | exact Sy.Part.nil | apply Sy.Part.cons rfl))), (F.sel (by repeat (first | exact Sy.Sel.nil | apply Sy.Sel.cons (by repeat (first | exact Sy.Take.here | apply Sy.Take.there)))))⟩) ?_
    clear T F
    intro n ac w hI J K hJ hK
    obtain ⟨k, rfl, hk, hno, T, F⟩ := hI
    by_cases hlt : k < t.rules.length
    · have v1 : decide ((k : Int) < (t.rules.length : Int)) = true := decide_eq_true (by omega)
      have v2 := i64_up hlt hml
      obtain ⟨b, o, cs, hsa, hcl, hat, p, rfl, hr⟩ := rows_get hru hlt
      subst hsa
      cases hb : ruleS t.states t.vars t.rules[k] with
      | false =>
        repeat (first
    | (((with_reducible refine Sy.is_op ?_); refine Sy.st_pure T (h := ?_); clear T; intro ac T))
    | ((with_reducible refine Sy.is_cond ?_); (refine Sy.st_true T (h := ?_)))
    | (with_reducible refine wpList_nil ?_)
    | (with_reducible refine wp_region_lit ?_)
    | (with_reducible refine wp_block ?_)
    | (with_reducible refine wp_skip ?_)
    | ((with_reducible refine wp_seq_k ?_); intro _ _)
    | (go_at_K; go_step)
    | (simp only [Exit.then, Exit.inBlock, ↓reduceIte, Nat.reduceEqDiff])
    | ((with_reducible refine Sy.is_drawn (id := 6) ?_); refine Sy.sx_region F [] (.t 0 (.t 1 (.t 2 (.t 3 (.t 4 (.t 5 (.t 6 (.t 7 (.t 8 (.h 9 (.t 10 .e))))))))))) [] (by kernel_rfl) ?_; (clear F; intro w F))
    | ((refine Sy.sx_plain (h := ?_)); (first
    | ((with_reducible refine Sy.ux_load ?_); (first
    | refine Sy.sx_val (Sy.rx_loadOne T F) T rfl ?_
    | refine Sy.sx_val (Sy.rx_oldAgg T F) T rfl ?_); clear T; intro ac T)
    | (refine Sy.sx_pure T (h := ?_); clear T; intro ac T)); show Sy.wpUx _ _ _ _ _ _ _ _ _))
        have G := ruleR_any w t.rules[k] p (hr.sub F.sub) t.states t.vars hb; refine Sy.sx_callV0 rfl T F (hc := G) (h := ?_); (clear T F G; intro ac w T F)
        repeat (first
    | (((with_reducible refine Sy.is_op ?_); refine Sy.st_pure T (h := ?_); clear T; intro ac T))
    | ((with_reducible refine Sy.is_cond ?_); (refine Sy.st_true T (h := ?_)))
    | (with_reducible refine wpList_nil ?_)
    | (with_reducible refine wp_region_lit ?_)
    | (with_reducible refine wp_ret ?_)
    | ((with_reducible refine wp_seq_k ?_); intro _ _)
    | (go_at_K; go_step)
    | (simp only [Exit.then, Exit.inBlock, ↓reduceIte, Nat.reduceEqDiff])
    | ((refine Sy.sx_plain (h := ?_)); ((refine Sy.sx_pure T (h := ?_); clear T; intro ac T)); show Sy.wpUx _ _ _ _ _ _ _ _ _)
    | (with_reducible refine Sy.sx_nil ?_)
    | (with_reducible refine Sy.sx_end ?_))
        ((try simp only [Exit.inBlock, Exit.then]); refine Sy.st_ret1 T F rfl (by repeat (first | exact Sy.ResV.nil | apply Sy.ResV.tmp rfl | apply Sy.ResV.row rfl rfl rfl (by repeat (first | exact Sy.Take.here | apply Sy.Take.there)) (by rfl) | apply Sy.ResV.one rfl rfl rfl (by repeat (first | exact Sy.Take.here | apply Sy.Take.there)) (by rfl))) ?_)
        exact retBb F (by rw [hfin, any_hit (fun r => !ruleS t.states t.vars r) _ k hlt (by simp only [hb]; rfl)]; rfl)
      | true =>
        repeat (first
    | (((with_reducible refine Sy.is_op ?_); refine Sy.st_pure T (h := ?_); clear T; intro ac T))
    | ((with_reducible refine Sy.is_cond ?_); (refine Sy.st_true T (h := ?_)))
    | (with_reducible refine wpList_nil ?_)
    | (with_reducible refine wp_region_lit ?_)
    | (with_reducible refine wp_block ?_)
    | (with_reducible refine wp_skip ?_)
    | ((with_reducible refine wp_seq_k ?_); intro _ _)
    | (go_at_K; go_step)
    | (simp only [Exit.then, Exit.inBlock, ↓reduceIte, Nat.reduceEqDiff])
    | ((with_reducible refine Sy.is_drawn (id := 6) ?_); refine Sy.sx_region F [] (.t 0 (.t 1 (.t 2 (.t 3 (.t 4 (.t 5 (.t 6 (.t 7 (.t 8 (.h 9 (.t 10 .e))))))))))) [] (by kernel_rfl) ?_; (clear F; intro w F))
    | ((refine Sy.sx_plain (h := ?_)); (first
    | ((with_reducible refine Sy.ux_load ?_); (first
    | refine Sy.sx_val (Sy.rx_loadOne T F) T rfl ?_
    | refine Sy.sx_val (Sy.rx_oldAgg T F) T rfl ?_); clear T; intro ac T)
    | (refine Sy.sx_pure T (h := ?_); clear T; intro ac T)); show Sy.wpUx _ _ _ _ _ _ _ _ _))
        have G := ruleR_any w t.rules[k] p (hr.sub F.sub) t.states t.vars hb; refine Sy.sx_callV0 rfl T F (hc := G) (h := ?_); (clear T F G; intro ac w T F)
        repeat (first
    | (((with_reducible refine Sy.is_op ?_); refine Sy.st_pure T (h := ?_); clear T; intro ac T))
    | ((with_reducible refine Sy.is_cond ?_); (refine Sy.st_false T (h := ?_)))
    | (with_reducible refine wpList_nil ?_)
    | (with_reducible refine wp_region_lit ?_)
    | (with_reducible refine wp_skip ?_)
    | (go_at_K; go_step)
    | (simp only [Exit.then, Exit.inBlock, ↓reduceIte, Nat.reduceEqDiff])
    | ((refine Sy.sx_plain (h := ?_)); ((refine Sy.sx_pure T (h := ?_); clear T; intro ac T)); show Sy.wpUx _ _ _ _ _ _ _ _ _)
    | (with_reducible refine Sy.sx_nil ?_)
    | (with_reducible refine Sy.sx_end ?_))
        exact Sy.handed hJ (k := t.rules.length - (k + 1)) (by omega) ⟨k + 1, rfl, by omega, any_up (p := fun r => !ruleS t.states t.vars r) hlt hno (by simp only [hb]; rfl), (T.part (by repeat (first | exact Sy.Part.nil | apply Sy.Part.cons rfl))), (F.sel (by repeat (first | exact Sy.Sel.nil | apply Sy.Sel.cons (by repeat (first | exact Sy.Take.here | apply Sy.Take.there)))))⟩
    obtain rfl : k = t.rules.length := by omega
    have v1 : decide ((t.rules.length : Int) < (t.rules.length : Int)) = false := decide_eq_false (by omega)
    rw [List.take_length] at hno
    repeat (first
    | (((with_reducible refine Sy.is_op ?_); refine Sy.st_pure T (h := ?_); clear T; intro ac T))
    | ((with_reducible refine Sy.is_cond ?_); (refine Sy.st_false T (h := ?_)))
    | (with_reducible refine wpList_nil ?_)
    | (with_reducible refine wp_region_lit ?_)
    | (with_reducible refine wp_exit ?_)
    | (with_reducible refine wp_ret ?_)
    | ((with_reducible refine wp_seq_k ?_); intro _ _)
    | (go_at_K; go_step)
    | (simp only [Exit.then, Exit.inBlock, ↓reduceIte, Nat.reduceEqDiff]))
    ((try simp only [Exit.inBlock, Exit.then]); refine Sy.st_ret1 T F rfl (by repeat (first | exact Sy.ResV.nil | apply Sy.ResV.tmp rfl | apply Sy.ResV.row rfl rfl rfl (by repeat (first | exact Sy.Take.here | apply Sy.Take.there)) (by rfl) | apply Sy.ResV.one rfl rfl rfl (by repeat (first | exact Sy.Take.here | apply Sy.Take.there)) (by rfl))) ?_)
    exact retBb F (by rw [hfin, hno]; rfl)
  all_goals
    refine Sy.enter Try.func43 rfl Try.ntmps43 rfl ?_; intro ac T; simp only [Sy.enum, Nat.zero_add, Nat.reduceAdd] at T
    repeat (first
    | (((with_reducible refine Sy.is_guard ?_); (first
    | refine Sy.st_guard T (h := ?_)
    | (refine Sy.st_unguard T (h := ?_); clear T; intro ac T))))
    | (((with_reducible refine Sy.is_load ?_); (refine Sy.st_loadOne T F (h := ?_)); clear T; intro ac T))
    | (((with_reducible refine Sy.is_box ?_); (refine Sy.st_boxAgg T F (h := ?_)); clear T F; intro ac g w T F))
    | (((with_reducible refine Sy.is_op ?_); refine Sy.st_pure T (h := ?_); clear T; intro ac T))
    | ((with_reducible refine Sy.is_cond ?_); (refine Sy.st_true T (h := ?_)))
    | (with_reducible refine wpList_nil ?_)
    | (with_reducible refine wp_region_lit ?_)
    | (with_reducible refine wp_ret ?_)
    | ((with_reducible refine wp_seq_k ?_); intro _ _)
    | (go_at_K; go_step)
    | (simp only [Exit.then, Exit.inBlock, ↓reduceIte, Nat.reduceEqDiff]))
    ((try simp only [Exit.inBlock, Exit.then]); refine Sy.st_ret1 T F rfl (by repeat (first | exact Sy.ResV.nil | apply Sy.ResV.tmp rfl | apply Sy.ResV.row rfl rfl rfl (by repeat (first | exact Sy.Take.here | apply Sy.Take.there)) (by rfl) | apply Sy.ResV.one rfl rfl rfl (by repeat (first | exact Sy.Take.here | apply Sy.Take.there)) (by rfl))) ?_)
    exact retBb F (by first | (unfold mayS; rw [t1, t2, t3, t4, t5]; rfl) | (unfold mayS; rw [t1, t2, t3, t4]; rfl) | (unfold mayS; rw [t1, t2, t3]; rfl) | (unfold mayS; rw [t1, t2]; rfl) | (unfold mayS; rw [t1]; rfl))
theorem mayRM {w m : World} (hs : Sub m w) {t : TabD} {ta : Option Addr} {tc : Nat} (h : TabAt m t ta tc) {b : Bool} (hb : mayS t = b) : Calls Try.prog 43 #[.agg (tabCs t ta tc).toArray] w (RetV w (.bool b)) := mayR_any w t ta tc (h.sub hs) hb
end Tb
end Go.Proofs.Ytniopkoaplkpkaa
namespace Go.Proofs.Ytniopkoaplkpkaa
open Go.RowKit
set_option linter.unusedVariables false
set_option linter.unusedSimpArgs false
namespace Tb
open Sy (RetV RetM Sub)
open Rg (and2 or2 or3 retBb not_t not_f eqT eqF i64_up i64_wrap)
/-- some truth comes back -/
def RetAny (w : World) (e : Ending) (w' : World) : Prop := ∃ b, e = .returned (.bool b) ∧ Below w.heap.size w w'
set_option maxRecDepth 20000 in
set_option maxHeartbeats 1000000 in
theorem great_any (w0 : World) (t : TabD) (ta : Option Addr) (tc : Nat) (h : TabAt w0 t ta tc) : Calls Try.prog 10 #[.agg (tabCs t ta tc).toArray] w0 (RetAny w0) := by
  have F := Sy.Mem.start (Sub.refl w0)
  have hru := h.rules
  have hrl := hru.1
  cases t1 : decide ((t.rules.length : Int) > 40)
  case true =>
    refine Sy.enter Try.func10 rfl Try.ntmps10 rfl ?_; intro ac T; simp only [Sy.enum, Nat.zero_add, Nat.reduceAdd] at T
    repeat (first
    | (((with_reducible refine Sy.is_load ?_); (refine Sy.st_loadOne T F (h := ?_)); clear T; intro ac T))
    | (((with_reducible refine Sy.is_box ?_); (refine Sy.st_boxAgg T F (h := ?_)); clear T F; intro ac g w T F))
    | (((with_reducible refine Sy.is_op ?_); refine Sy.st_pure T (h := ?_); clear T; intro ac T))
    | ((with_reducible refine Sy.is_cond ?_); (refine Sy.st_true T (h := ?_)))
    | (with_reducible refine wpList_nil ?_)
    | (with_reducible refine wp_region_lit ?_)
    | (with_reducible refine wp_ret ?_)
    | ((with_reducible refine wp_seq_k ?_); intro _ _)
    | (go_at_K; go_step)
    | (simp only [Exit.then, Exit.inBlock, ↓reduceIte, Nat.reduceEqDiff]))
    ((try simp only [Exit.inBlock, Exit.then]); refine Sy.st_ret1 T F rfl (by repeat (first | exact Sy.ResV.nil | apply Sy.ResV.tmp rfl | apply Sy.ResV.row rfl rfl rfl (by repeat (first | exact Sy.Take.here | apply Sy.Take.there)) (by rfl) | apply Sy.ResV.one rfl rfl rfl (by repeat (first | exact Sy.Take.here | apply Sy.Take.there)) (by rfl))) ?_)
    exact ⟨_, rfl, F.end_⟩
  refine Sy.enter Try.func10 rfl Try.ntmps10 rfl ?_; intro ac T; simp only [Sy.enum, Nat.zero_add, Nat.reduceAdd] at T
  repeat (first
    | (((with_reducible refine Sy.is_load ?_); (refine Sy.st_loadOne T F (h := ?_)); clear T; intro ac T))
    | (((with_reducible refine Sy.is_box ?_); (refine Sy.st_boxAgg T F (h := ?_)); clear T F; intro ac g w T F))
    | (((with_reducible refine Sy.is_op ?_); refine Sy.st_pure T (h := ?_); clear T; intro ac T))
    | ((with_reducible refine Sy.is_cond ?_); (refine Sy.st_false T (h := ?_)))
    | (with_reducible refine wpList_nil ?_)
    | (with_reducible refine wp_region_lit ?_)
    | (with_reducible refine wp_block ?_)
    | (with_reducible refine wp_skip ?_)
    | ((with_reducible refine wp_seq_k ?_); intro _ _)
    | (go_at_K; go_step)
    | (simp only [Exit.then, Exit.inBlock, ↓reduceIte, Nat.reduceEqDiff]))
  refine Sy.loop1 (fun g1 n ac w' => ∃ (k : Nat), n = t.rules.length - k ∧ k ≤ t.rules.length ∧ Sy.Tm ac 69 [(1, .pointer (some ⟨g1, 0, none⟩)), (2, .bool false), (13, .int .i64 (t.rules.length : Int)), (14, .int .i64 (k : Int))] ∧
    Sy.Mem ⟨w0, [], w0⟩ w0 [⟨g1, tabCs t ta tc, 24⟩] w') t.rules.length (by exact ⟨0, rfl, Nat.zero_le _, (T.part (by repeat (first | exact Sy.Part.nil | apply Sy.Part.cons rfl))), (F.sel (by repeat (first | exact Sy.Sel.nil | apply Sy.Sel.cons (by repeat (first | exact Sy.Take.here | apply Sy.Take.there)))))⟩) ?_
  clear T F
  intro n ac w hI J K hJ hK
  obtain ⟨k, rfl, hk, T, F⟩ := hI
  by_cases hlt : k < t.rules.length
  · have v1 : decide ((k : Int) < (t.rules.length : Int)) = true := decide_eq_true (by omega)
    have v2 := i64_up hlt hrl
    obtain ⟨b, o, cs, hsa, hcl, hat, ⟨ga, gc, sa, sc, ea, ec⟩, rfl, hr⟩ := rows_get hru hlt
    subst hsa
    have hse := hr.sets
    have hem := hr.emits
    simp only at hse hem
    generalize t.rules[k] = r at *
    rcases or3 (decide ((r.guard.length : Int) > 60)) (decide ((r.sets.length : Int) > 20)) (decide ((r.emits.length : Int) > 20)) with s1 | ⟨s1, s2⟩ | ⟨s1, s2, s3⟩ | ⟨s1, s2, s3⟩
    case inr.inr.inr =>
      repeat (first
    | (((with_reducible refine Sy.is_guard ?_); (refine Sy.st_guard T (h := ?_))))
    | (((with_reducible refine Sy.is_load ?_); (first
    | refine Sy.st_loadOne T F (h := ?_)
    | refine Sy.st_oldAgg T F (h := ?_)); clear T; intro ac T))
    | (((with_reducible refine Sy.is_store ?_); (refine Sy.st_storeAll T F (h := ?_)); clear T F; intro ac w T F))
    | (((with_reducible refine Sy.is_alloc ?_); refine Sy.st_alloc T F (h := ?_); clear T F; intro ac g w T F))
    | (((with_reducible refine Sy.is_op ?_); refine Sy.st_pure T (h := ?_); clear T; intro ac T))
    | ((with_reducible refine Sy.is_cond ?_); (first
    | refine Sy.st_true T (h := ?_)
    | refine Sy.st_false T (h := ?_)))
    | (with_reducible refine wpList_nil ?_)
    | (with_reducible refine wp_region_lit ?_)
    | (with_reducible refine wp_block ?_)
    | (with_reducible refine wp_skip ?_)
    | ((with_reducible refine wp_seq_k ?_); intro _ _)
    | (go_at_K; go_step)
    | (simp only [Exit.then, Exit.inBlock, ↓reduceIte, Nat.reduceEqDiff]))
      refine Sy.loop2 (fun g1 g4 n ac w' => ∃ (j : Nat), n = r.sets.length - j ∧ j ≤ r.sets.length ∧ Sy.Tm ac 69 [(1, .pointer (some ⟨g1, 0, none⟩)), (2, .bool false), (4, .pointer (some ⟨g4, 0, none⟩)), (13, .int .i64 (t.rules.length : Int)), (14, .int .i64 (k : Int)), (40, .int .i64 (r.sets.length : Int)), (41, .int .i64 (j : Int))] ∧
        Sy.Mem ⟨w0, [], w0⟩ w0 [⟨g4, ruleCs r ⟨ga, gc, sa, sc, ea, ec⟩, 76⟩, ⟨g1, tabCs t (some ⟨b, o, none⟩) tc, 24⟩] w') r.sets.length (by exact ⟨0, rfl, Nat.zero_le _, (T.part (by repeat (first | exact Sy.Part.nil | apply Sy.Part.cons rfl))), (F.sel (by repeat (first | exact Sy.Sel.nil | apply Sy.Sel.cons (by repeat (first | exact Sy.Take.here | apply Sy.Take.there)))))⟩) ?_
      clear T F
      intro n ac w hI J2 K2 hJ2 hK2
      obtain ⟨j, rfl, hj, T, F⟩ := hI
      by_cases hjl : j < r.sets.length
      · have v3 : decide ((j : Int) < (r.sets.length : Int)) = true := decide_eq_true (by omega)
        have v4 := i64_up hjl hse.1
        obtain ⟨b2, o2, cs2, hsa2, hcl2, hat2, a1, c1, rfl, hiv, htk⟩ := rows_get hse hjl
        subst hsa2
        cases s5 : decide ((r.sets[j].val.length : Int) > 60)
        · repeat (first
    | (((with_reducible refine Sy.is_load ?_); (first
    | refine Sy.st_loadOne T F (h := ?_)
    | refine Sy.st_oldOne T F (h := ?_)); clear T; intro ac T))
    | (((with_reducible refine Sy.is_op ?_); refine Sy.st_pure T (h := ?_); clear T; intro ac T))
    | ((with_reducible refine Sy.is_cond ?_); (first
    | refine Sy.st_true T (h := ?_)
    | refine Sy.st_false T (h := ?_)))
    | (with_reducible refine wpList_nil ?_)
    | (with_reducible refine wp_region_lit ?_)
    | (with_reducible refine wp_block ?_)
    | (with_reducible refine wp_skip ?_)
    | ((with_reducible refine wp_seq_k ?_); intro _ _)
    | (go_at_K; go_step)
    | (simp only [Exit.then, Exit.inBlock, ↓reduceIte, Nat.reduceEqDiff]))
          exact Sy.handed hJ2 (k := r.sets.length - (j + 1)) (by omega) ⟨j + 1, rfl, by omega, (T.part (by repeat (first | exact Sy.Part.nil | apply Sy.Part.cons rfl))), (F.sel (by repeat (first | exact Sy.Sel.nil | apply Sy.Sel.cons (by repeat (first | exact Sy.Take.here | apply Sy.Take.there)))))⟩
        · repeat (first
    | (((with_reducible refine Sy.is_load ?_); (first
    | refine Sy.st_loadOne T F (h := ?_)
    | refine Sy.st_oldOne T F (h := ?_)); clear T; intro ac T))
    | (((with_reducible refine Sy.is_op ?_); refine Sy.st_pure T (h := ?_); clear T; intro ac T))
    | ((with_reducible refine Sy.is_cond ?_); (refine Sy.st_true T (h := ?_)))
    | (with_reducible refine wpList_nil ?_)
    | (with_reducible refine wp_region_lit ?_)
    | (with_reducible refine wp_block ?_)
    | (with_reducible refine wp_skip ?_)
    | (with_reducible refine wp_ret ?_)
    | ((with_reducible refine wp_seq_k ?_); intro _ _)
    | (go_at_K; go_step)
    | (simp only [Exit.then, Exit.inBlock, ↓reduceIte, Nat.reduceEqDiff]))
          ((try simp only [Exit.inBlock, Exit.then]); refine Sy.st_ret1 T F rfl (by repeat (first | exact Sy.ResV.nil | apply Sy.ResV.tmp rfl | apply Sy.ResV.row rfl rfl rfl (by repeat (first | exact Sy.Take.here | apply Sy.Take.there)) (by rfl) | apply Sy.ResV.one rfl rfl rfl (by repeat (first | exact Sy.Take.here | apply Sy.Take.there)) (by rfl))) ?_)
          exact ⟨_, rfl, F.end_⟩
      obtain rfl : j = r.sets.length := by omega
      have v3 : decide ((r.sets.length : Int) < (r.sets.length : Int)) = false := decide_eq_false (by omega)
      repeat (first
    | (((with_reducible refine Sy.is_load ?_); (refine Sy.st_loadOne T F (h := ?_)); clear T; intro ac T))
    | (((with_reducible refine Sy.is_op ?_); refine Sy.st_pure T (h := ?_); clear T; intro ac T))
    | ((with_reducible refine Sy.is_cond ?_); (refine Sy.st_false T (h := ?_)))
    | (with_reducible refine wpList_nil ?_)
    | (with_reducible refine wp_region_lit ?_)
    | (with_reducible refine wp_block ?_)
    | (with_reducible refine wp_exit ?_)
    | ((with_reducible refine wp_seq_k ?_); intro _ _)
    | (go_at_K; go_step)
    | (simp only [Exit.then, Exit.inBlock, ↓reduceIte, Nat.reduceEqDiff]))
      refine Sy.loop2 (fun g1 g4 n ac w' => ∃ (j : Nat), n = r.emits.length - j ∧ j ≤ r.emits.length ∧ Sy.Tm ac 69 [(1, .pointer (some ⟨g1, 0, none⟩)), (2, .bool false), (4, .pointer (some ⟨g4, 0, none⟩)), (13, .int .i64 (t.rules.length : Int)), (14, .int .i64 (k : Int)), (55, .int .i64 (r.emits.length : Int)), (56, .int .i64 (j : Int))] ∧
        Sy.Mem ⟨w0, [], w0⟩ w0 [⟨g4, ruleCs r ⟨ga, gc, sa, sc, ea, ec⟩, 76⟩, ⟨g1, tabCs t (some ⟨b, o, none⟩) tc, 24⟩] w') r.emits.length (by exact ⟨0, rfl, Nat.zero_le _, (T.part (by repeat (first | exact Sy.Part.nil | apply Sy.Part.cons rfl))), (F.sel (by repeat (first | exact Sy.Sel.nil | apply Sy.Sel.cons (by repeat (first | exact Sy.Take.here | apply Sy.Take.there)))))⟩) ?_
      clear T F hjl hj v3 hJ2 hK2
      intro n ac w hI J2 K2 hJ2 hK2
      obtain ⟨j, rfl, hj, T, F⟩ := hI
      by_cases hjl : j < r.emits.length
      · have v3 : decide ((j : Int) < (r.emits.length : Int)) = true := decide_eq_true (by omega)
        have v4 := i64_up hjl hem.1
        obtain ⟨b2, o2, cs2, hsa2, hcl2, hat2, a1, c1, rfl, h8, hiv, htk⟩ := rows_get hem hjl
        subst hsa2
        cases s5 : decide ((r.emits[j].arg.length : Int) > 60)
        · repeat (first
    | (((with_reducible refine Sy.is_load ?_); (first
    | refine Sy.st_loadOne T F (h := ?_)
    | refine Sy.st_oldOne T F (h := ?_)); clear T; intro ac T))
    | (((with_reducible refine Sy.is_op ?_); refine Sy.st_pure T (h := ?_); clear T; intro ac T))
    | ((with_reducible refine Sy.is_cond ?_); (first
    | refine Sy.st_true T (h := ?_)
    | refine Sy.st_false T (h := ?_)))
    | (with_reducible refine wpList_nil ?_)
    | (with_reducible refine wp_region_lit ?_)
    | (with_reducible refine wp_block ?_)
    | (with_reducible refine wp_skip ?_)
    | ((with_reducible refine wp_seq_k ?_); intro _ _)
    | (go_at_K; go_step)
    | (simp only [Exit.then, Exit.inBlock, ↓reduceIte, Nat.reduceEqDiff]))
          exact Sy.handed hJ2 (k := r.emits.length - (j + 1)) (by omega) ⟨j + 1, rfl, by omega, (T.part (by repeat (first | exact Sy.Part.nil | apply Sy.Part.cons rfl))), (F.sel (by repeat (first | exact Sy.Sel.nil | apply Sy.Sel.cons (by repeat (first | exact Sy.Take.here | apply Sy.Take.there)))))⟩
        · repeat (first
    | (((with_reducible refine Sy.is_load ?_); (first
    | refine Sy.st_loadOne T F (h := ?_)
    | refine Sy.st_oldOne T F (h := ?_)); clear T; intro ac T))
    | (((with_reducible refine Sy.is_op ?_); refine Sy.st_pure T (h := ?_); clear T; intro ac T))
    | ((with_reducible refine Sy.is_cond ?_); (refine Sy.st_true T (h := ?_)))
    | (with_reducible refine wpList_nil ?_)
    | (with_reducible refine wp_region_lit ?_)
    | (with_reducible refine wp_block ?_)
    | (with_reducible refine wp_skip ?_)
    | (with_reducible refine wp_ret ?_)
    | ((with_reducible refine wp_seq_k ?_); intro _ _)
    | (go_at_K; go_step)
    | (simp only [Exit.then, Exit.inBlock, ↓reduceIte, Nat.reduceEqDiff]))
          ((try simp only [Exit.inBlock, Exit.then]); refine Sy.st_ret1 T F rfl (by repeat (first | exact Sy.ResV.nil | apply Sy.ResV.tmp rfl | apply Sy.ResV.row rfl rfl rfl (by repeat (first | exact Sy.Take.here | apply Sy.Take.there)) (by rfl) | apply Sy.ResV.one rfl rfl rfl (by repeat (first | exact Sy.Take.here | apply Sy.Take.there)) (by rfl))) ?_)
          exact ⟨_, rfl, F.end_⟩
      obtain rfl : j = r.emits.length := by omega
      have v3 : decide ((r.emits.length : Int) < (r.emits.length : Int)) = false := decide_eq_false (by omega)
      repeat (first
    | (((with_reducible refine Sy.is_op ?_); refine Sy.st_pure T (h := ?_); clear T; intro ac T))
    | ((with_reducible refine Sy.is_cond ?_); (refine Sy.st_false T (h := ?_)))
    | (with_reducible refine wpList_nil ?_)
    | (with_reducible refine wp_region_lit ?_)
    | (with_reducible refine wp_exit ?_)
    | ((with_reducible refine wp_seq_k ?_); intro _ _)
    | (go_at_K; go_step)
    | (simp only [Exit.then, Exit.inBlock, ↓reduceIte, Nat.reduceEqDiff]))
      exact Sy.handed hJ (k := t.rules.length - (k + 1)) (by omega) ⟨k + 1, rfl, by omega, (T.part (by repeat (first | exact Sy.Part.nil | apply Sy.Part.cons rfl))), (F.sel (by repeat (first | exact Sy.Sel.nil | apply Sy.Sel.cons (by repeat (first | exact Sy.Take.here | apply Sy.Take.there)))))⟩
    all_goals
      repeat (first
    | (((with_reducible refine Sy.is_guard ?_); (first
    | refine Sy.st_guard T (h := ?_)
    | (refine Sy.st_unguard T (h := ?_); clear T; intro ac T))))
    | (((with_reducible refine Sy.is_load ?_); (first
    | refine Sy.st_loadOne T F (h := ?_)
    | refine Sy.st_oldAgg T F (h := ?_)); clear T; intro ac T))
    | (((with_reducible refine Sy.is_store ?_); (refine Sy.st_storeAll T F (h := ?_)); clear T F; intro ac w T F))
    | (((with_reducible refine Sy.is_alloc ?_); refine Sy.st_alloc T F (h := ?_); clear T F; intro ac g w T F))
    | (((with_reducible refine Sy.is_op ?_); refine Sy.st_pure T (h := ?_); clear T; intro ac T))
    | ((with_reducible refine Sy.is_cond ?_); (refine Sy.st_true T (h := ?_)))
    | (with_reducible refine wpList_nil ?_)
    | (with_reducible refine wp_region_lit ?_)
    | (with_reducible refine wp_block ?_)
    | (with_reducible refine wp_skip ?_)
    | (with_reducible refine wp_ret ?_)
    | ((with_reducible refine wp_seq_k ?_); intro _ _)
    | (go_at_K; go_step)
    | (simp only [Exit.then, Exit.inBlock, ↓reduceIte, Nat.reduceEqDiff]))
      ((try simp only [Exit.inBlock, Exit.then]); refine Sy.st_ret1 T F rfl (by repeat (first | exact Sy.ResV.nil | apply Sy.ResV.tmp rfl | apply Sy.ResV.row rfl rfl rfl (by repeat (first | exact Sy.Take.here | apply Sy.Take.there)) (by rfl) | apply Sy.ResV.one rfl rfl rfl (by repeat (first | exact Sy.Take.here | apply Sy.Take.there)) (by rfl))) ?_)
      exact ⟨_, rfl, F.end_⟩
  obtain rfl : k = t.rules.length := by omega
  have v1 : decide ((t.rules.length : Int) < (t.rules.length : Int)) = false := decide_eq_false (by omega)
  repeat (first
    | (((with_reducible refine Sy.is_op ?_); refine Sy.st_pure T (h := ?_); clear T; intro ac T))
    | ((with_reducible refine Sy.is_cond ?_); (refine Sy.st_false T (h := ?_)))
    | (with_reducible refine wpList_nil ?_)
    | (with_reducible refine wp_region_lit ?_)
    | (with_reducible refine wp_exit ?_)
    | (with_reducible refine wp_ret ?_)
    | ((with_reducible refine wp_seq_k ?_); intro _ _)
    | (go_at_K; go_step)
    | (simp only [Exit.then, Exit.inBlock, ↓reduceIte, Nat.reduceEqDiff]))
  ((try simp only [Exit.inBlock, Exit.then]); refine Sy.st_ret1 T F rfl (by repeat (first | exact Sy.ResV.nil | apply Sy.ResV.tmp rfl | apply Sy.ResV.row rfl rfl rfl (by repeat (first | exact Sy.Take.here | apply Sy.Take.there)) (by rfl) | apply Sy.ResV.one rfl rfl rfl (by repeat (first | exact Sy.Take.here | apply Sy.Take.there)) (by rfl))) ?_)
  exact ⟨_, rfl, F.end_⟩
end Tb
end Go.Proofs.Ytniopkoaplkpkaa
