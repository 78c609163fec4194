/- The walks of reg.empty and reg.May. Conditions: the register can be read; its lists are short. -/
import Derived.Test.YtniopkoaplkpkaaMay
import Derived.Test.YtniopkoaplkpkaaRegD
namespace Go.Proofs.Ytniopkoaplkpkaa
open Go.RowKit
set_option linter.unusedVariables false
set_option linter.unusedSimpArgs false
namespace Rg
open Sy (RetV RetM Sub)
structure Short (r : RegD) : Prop where
  v : r.vars.length ≤ 50
  d : r.done.length ≤ 50
  o : r.out.length ≤ 50
  m : r.marks.length ≤ 50
theorem short_of {r : RegD} (h : greatS r = false) : Short r := by
  unfold greatS at h
  rw [Bool.or_eq_false_iff] at h
  have := of_decide_eq_false h.1
  constructor <;> omega
def emptyS (r : RegD) : Bool := ((r.inc : Int) == 0) && ((r.state == 0) && (((r.last : Int) == 0) && (((r.vars.length + r.done.length + r.out.length + r.marks.length : Nat) : Int) == 0)))

set_option maxRecDepth 20000 in
set_option maxHeartbeats 1000000 in
theorem empty_any (w : World) (r : RegD) (p : RegA) (hs : Short r) : Calls Try.prog 93 #[.agg (regCs r p).toArray] w (RetV w (.bool (emptyS r))) := by
  have F := Sy.Mem.start (Sub.refl w)
  obtain ⟨s1, s2, s3, s4⟩ := hs
  have q1 : IntKind.i64.wrap ((r.vars.length : Int) + (r.done.length : Int)) = ((r.vars.length + r.done.length : Nat) : Int) := by rw [i64_wrap (by omega) (by omega)]; omega
  have q2 : IntKind.i64.wrap (((r.vars.length + r.done.length : Nat) : Int) + (r.out.length : Int)) = ((r.vars.length + r.done.length + r.out.length : Nat) : Int) := by rw [i64_wrap (by omega) (by omega)]; omega
  have q3 : IntKind.i64.wrap (((r.vars.length + r.done.length + r.out.length : Nat) : Int) + (r.marks.length : Int)) = ((r.vars.length + r.done.length + r.out.length + r.marks.length : Nat) : Int) := by rw [i64_wrap (by omega) (by omega)]; omega
  rcases and4 ((r.inc : Int) == 0) (r.state == 0) ((r.last : Int) == 0) (((r.vars.length + r.done.length + r.out.length + r.marks.length : Nat) : Int) == 0) with t1 | ⟨t1, t2⟩ | ⟨t1, t2, t3⟩ | ⟨t1, t2, t3, t4⟩ | ⟨t1, t2, t3, t4⟩
  all_goals
    refine Sy.enter Try.func93 rfl Try.ntmps93 rfl ?_; intro ac T; simp only [Sy.enum, Nat.zero_add, Nat.reduceAdd] at T
    repeat (first
    | (((with_reducible refine Sy.is_guard ?_); (first
    | refine Sy.st_guard T (h := ?_)
    | (refine Sy.st_unguard T (h := ?_); clear T; intro ac T))))
    | (((with_reducible refine Sy.is_load ?_); (refine Sy.st_loadOne T F (h := ?_)); clear T; intro ac T))
    | (((with_reducible refine Sy.is_box ?_); (refine Sy.st_boxAgg T F (h := ?_)); clear T F; intro ac g w T F))
    | (((with_reducible refine Sy.is_op ?_); refine Sy.st_pure T (h := ?_); clear T; intro ac T))
    | (with_reducible refine wpList_nil ?_)
    | (with_reducible refine wp_region_lit ?_)
    | (with_reducible refine wp_ret ?_)
    | ((with_reducible refine wp_seq_k ?_); intro _ _)
    | (go_at_K; go_step)
    | (simp only [Exit.then, Exit.inBlock, ↓reduceIte, Nat.reduceEqDiff]))
    ((try simp only [Exit.inBlock, Exit.then]); refine Sy.st_ret1 T F rfl (by repeat (first | exact Sy.ResV.nil | apply Sy.ResV.tmp rfl | apply Sy.ResV.row rfl rfl rfl (by repeat (first | exact Sy.Take.here | apply Sy.Take.there)) (by rfl) | apply Sy.ResV.one rfl rfl rfl (by repeat (first | exact Sy.Take.here | apply Sy.Take.there)) (by rfl))) ?_)
    exact retBb F (by first | (unfold emptyS; rw [t1, t2, t3, t4]; rfl) | (unfold emptyS; rw [t1, t2, t3]; rfl) | (unfold emptyS; rw [t1, t2]; rfl) | (unfold emptyS; rw [t1]; rfl))

def coreS (r : RegD) : Bool := decide ((r.inc : Int) > 0) && (inS r.state 32 && (decide ((r.vars.length : Int) ≤ 8) && (donesS r.done && (cellsS r.out r.last && marksS r.marks))))
def tombS (r : RegD) : Bool := !(r.state == 0) || (decide ((r.vars.length : Int) > 0) || decide ((r.out.length : Int) > 0))
def mayS (r : RegD) : Bool := if r.kind = 0 then emptyS r else if r.kind = 2 then (!tombS r && coreS r) else if r.kind = 1 then coreS r else false

set_option maxRecDepth 20000 in
set_option maxHeartbeats 8000000 in
theorem may_any (w : World) (r : RegD) (p : RegA) (h : RegAt w r p) (hs : Short r) : Calls Try.prog 51 #[.agg (regCs r p).toArray] w (RetV w (.bool (mayS r))) := by
  have F := Sy.Mem.start (Sub.refl w)
  by_cases k0 : r.kind = 0
  · have a1 := eqT (a := (r.kind : Int)) (b := 0) (by omega)
    have hE := fun w => empty_any w r p hs
    refine Sy.enter Try.func51 rfl Try.ntmps51 rfl ?_; intro ac T; simp only [Sy.enum, Nat.zero_add, Nat.reduceAdd] at T
    repeat (first
    | (((with_reducible refine Sy.is_load ?_); (first
    | refine Sy.st_loadOne T F (h := ?_)
    | refine Sy.st_loadAll T F (h := ?_)); clear T; intro ac T))
    | (((with_reducible refine Sy.is_box ?_); (refine Sy.st_boxAgg T F (h := ?_)); clear T F; intro ac g w T F))
    | (((with_reducible refine Sy.is_op ?_); refine Sy.st_pure T (h := ?_); clear T; intro ac T))
    | ((with_reducible refine Sy.is_cond ?_); (refine Sy.st_true T (h := ?_)))
    | (with_reducible refine wpList_nil ?_)
    | (with_reducible refine wp_region_lit ?_)
    | (with_reducible refine wp_block ?_)
    | ((with_reducible refine wp_seq_k ?_); intro _ _)
    | (go_at_K; go_step)
    | (simp only [Exit.then, Exit.inBlock, ↓reduceIte, Nat.reduceEqDiff]))
    refine Sy.st_callV0 T F (hc := hE _) (h := ?_); (clear T F; intro ac w T F)
    repeat (first
    | (((with_reducible refine Sy.is_op ?_); refine Sy.st_pure T (h := ?_); clear T; intro ac T))
    | (with_reducible refine wpList_nil ?_)
    | (with_reducible refine wp_ret ?_)
    | (go_at_K; go_step)
    | (simp only [Exit.then, Exit.inBlock, ↓reduceIte, Nat.reduceEqDiff]))
    ((try simp only [Exit.inBlock, Exit.then]); refine Sy.st_ret1 T F rfl (by repeat (first | exact Sy.ResV.nil | apply Sy.ResV.tmp rfl | apply Sy.ResV.row rfl rfl rfl (by repeat (first | exact Sy.Take.here | apply Sy.Take.there)) (by rfl) | apply Sy.ResV.one rfl rfl rfl (by repeat (first | exact Sy.Take.here | apply Sy.Take.there)) (by rfl))) ?_)
    exact retBb F (by unfold mayS; rw [if_pos k0])
  have a1 := eqF (a := (r.kind : Int)) (b := 0) (by omega)
  have hk : (r.kind = 1 ∧ ((r.kind : Int) == 2) = false ∧ ((r.kind : Int) == 1) = true ∧ mayS r = coreS r ∧ True) ∨ (r.kind = 2 ∧ ((r.kind : Int) == 2) = true ∧ (r.state == 0) = true ∧ mayS r = coreS r ∧ (decide ((r.vars.length : Int) > 0) = false ∧ decide ((r.out.length : Int) > 0) = false)) ∨
      (mayS r = false ∧ r.kind = 2 ∧ ((r.kind : Int) == 2) = true ∧ tombS r = true) ∨ (mayS r = false ∧ ((r.kind : Int) == 2) = false ∧ ((r.kind : Int) == 1) = false) := by
    by_cases k2 : r.kind = 2
    · have e2 := eqT (a := (r.kind : Int)) (b := 2) (by omega)
      cases ht : tombS r
      · right; left
        have ht' := ht
        unfold tombS at ht'
        simp only [Bool.or_eq_false_iff] at ht'
        exact ⟨k2, e2, not_f ht'.1, by unfold mayS; rw [if_neg k0, if_pos k2, ht]; rfl, ht'.2.1, ht'.2.2⟩
      · right; right; left
        exact ⟨by unfold mayS; rw [if_neg k0, if_pos k2, ht]; rfl, k2, e2, rfl⟩
    · have e2 := eqF (a := (r.kind : Int)) (b := 2) (by omega)
      by_cases k1 : r.kind = 1
      · left
        exact ⟨k1, e2, eqT (by omega), by unfold mayS; rw [if_neg k0, if_neg k2, if_pos k1], trivial⟩
      · right; right; right
        exact ⟨by unfold mayS; rw [if_neg k0, if_neg k2, if_neg k1], e2, eqF (by omega)⟩
  rcases hk with ⟨k1, a2, a3, hm, -⟩ | ⟨k2, a2, a3, hm, a4, a5⟩ | ⟨hm, k2, a2, ht⟩ | ⟨hm, a2, a3⟩
  case inr.inr.inr =>
    refine Sy.enter Try.func51 rfl Try.ntmps51 rfl ?_; intro ac T; simp only [Sy.enum, Nat.zero_add, Nat.reduceAdd] at T
    repeat (first
    | (((with_reducible refine Sy.is_load ?_); (refine Sy.st_loadOne T F (h := ?_)); clear T; intro ac T))
    | (((with_reducible refine Sy.is_box ?_); (refine Sy.st_boxAgg T F (h := ?_)); clear T F; intro ac g w T F))
    | (((with_reducible refine Sy.is_op ?_); refine Sy.st_pure T (h := ?_); clear T; intro ac T))
    | ((with_reducible refine Sy.is_cond ?_); (refine Sy.st_false T (h := ?_)))
    | (with_reducible refine wpList_nil ?_)
    | (with_reducible refine wp_region_lit ?_)
    | (with_reducible refine wp_block ?_)
    | (with_reducible refine wp_ret ?_)
    | ((with_reducible refine wp_seq_k ?_); intro _ _)
    | (go_at_K; go_step)
    | (simp only [Exit.then, Exit.inBlock, ↓reduceIte, Nat.reduceEqDiff]))
    ((try simp only [Exit.inBlock, Exit.then]); refine Sy.st_ret1 T F rfl (by repeat (first | exact Sy.ResV.nil | apply Sy.ResV.tmp rfl | apply Sy.ResV.row rfl rfl rfl (by repeat (first | exact Sy.Take.here | apply Sy.Take.there)) (by rfl) | apply Sy.ResV.one rfl rfl rfl (by repeat (first | exact Sy.Take.here | apply Sy.Take.there)) (by rfl))) ?_)
    exact retBb F hm
  case inr.inr.inl =>
    unfold tombS at ht
    rcases or3 (!(r.state == 0)) (decide ((r.vars.length : Int) > 0)) (decide ((r.out.length : Int) > 0)) with t1 | ⟨t1, t2⟩ | ⟨t1, t2, t3⟩ | ⟨t1, t2, t3⟩
    · have u1 := not_t t1
      refine Sy.enter Try.func51 rfl Try.ntmps51 rfl ?_; intro ac T; simp only [Sy.enum, Nat.zero_add, Nat.reduceAdd] at T
      repeat (first
    | (((with_reducible refine Sy.is_guard ?_); ((refine Sy.st_unguard T (h := ?_); clear T; intro ac T))))
    | (((with_reducible refine Sy.is_load ?_); (refine Sy.st_loadOne T F (h := ?_)); clear T; intro ac T))
    | (((with_reducible refine Sy.is_box ?_); (refine Sy.st_boxAgg T F (h := ?_)); clear T F; intro ac g w T F))
    | (((with_reducible refine Sy.is_op ?_); refine Sy.st_pure T (h := ?_); clear T; intro ac T))
    | ((with_reducible refine Sy.is_cond ?_); (first
    | refine Sy.st_true T (h := ?_)
    | refine Sy.st_false T (h := ?_)))
    | (with_reducible refine wpList_nil ?_)
    | (with_reducible refine wp_region_lit ?_)
    | (with_reducible refine wp_block ?_)
    | (with_reducible refine wp_ret ?_)
    | ((with_reducible refine wp_seq_k ?_); intro _ _)
    | (go_at_K; go_step)
    | (simp only [Exit.then, Exit.inBlock, ↓reduceIte, Nat.reduceEqDiff]))
      ((try simp only [Exit.inBlock, Exit.then]); refine Sy.st_ret1 T F rfl (by repeat (first | exact Sy.ResV.nil | apply Sy.ResV.tmp rfl | apply Sy.ResV.row rfl rfl rfl (by repeat (first | exact Sy.Take.here | apply Sy.Take.there)) (by rfl) | apply Sy.ResV.one rfl rfl rfl (by repeat (first | exact Sy.Take.here | apply Sy.Take.there)) (by rfl))) ?_)
      exact retBb F hm
    · have u1 := not_f t1
      refine Sy.enter Try.func51 rfl Try.ntmps51 rfl ?_; intro ac T; simp only [Sy.enum, Nat.zero_add, Nat.reduceAdd] at T
      repeat (first
    | (((with_reducible refine Sy.is_guard ?_); (first
    | refine Sy.st_guard T (h := ?_)
    | (refine Sy.st_unguard T (h := ?_); clear T; intro ac T))))
    | (((with_reducible refine Sy.is_load ?_); (refine Sy.st_loadOne T F (h := ?_)); clear T; intro ac T))
    | (((with_reducible refine Sy.is_box ?_); (refine Sy.st_boxAgg T F (h := ?_)); clear T F; intro ac g w T F))
    | (((with_reducible refine Sy.is_op ?_); refine Sy.st_pure T (h := ?_); clear T; intro ac T))
    | ((with_reducible refine Sy.is_cond ?_); (first
    | refine Sy.st_true T (h := ?_)
    | refine Sy.st_false T (h := ?_)))
    | (with_reducible refine wpList_nil ?_)
    | (with_reducible refine wp_region_lit ?_)
    | (with_reducible refine wp_block ?_)
    | (with_reducible refine wp_ret ?_)
    | ((with_reducible refine wp_seq_k ?_); intro _ _)
    | (go_at_K; go_step)
    | (simp only [Exit.then, Exit.inBlock, ↓reduceIte, Nat.reduceEqDiff]))
      ((try simp only [Exit.inBlock, Exit.then]); refine Sy.st_ret1 T F rfl (by repeat (first | exact Sy.ResV.nil | apply Sy.ResV.tmp rfl | apply Sy.ResV.row rfl rfl rfl (by repeat (first | exact Sy.Take.here | apply Sy.Take.there)) (by rfl) | apply Sy.ResV.one rfl rfl rfl (by repeat (first | exact Sy.Take.here | apply Sy.Take.there)) (by rfl))) ?_)
      exact retBb F hm
    · have u1 := not_f t1
      refine Sy.enter Try.func51 rfl Try.ntmps51 rfl ?_; intro ac T; simp only [Sy.enum, Nat.zero_add, Nat.reduceAdd] at T
      repeat (first
    | (((with_reducible refine Sy.is_guard ?_); (refine Sy.st_guard T (h := ?_))))
    | (((with_reducible refine Sy.is_load ?_); (refine Sy.st_loadOne T F (h := ?_)); clear T; intro ac T))
    | (((with_reducible refine Sy.is_box ?_); (refine Sy.st_boxAgg T F (h := ?_)); clear T F; intro ac g w T F))
    | (((with_reducible refine Sy.is_op ?_); refine Sy.st_pure T (h := ?_); clear T; intro ac T))
    | ((with_reducible refine Sy.is_cond ?_); (first
    | refine Sy.st_true T (h := ?_)
    | refine Sy.st_false T (h := ?_)))
    | (with_reducible refine wpList_nil ?_)
    | (with_reducible refine wp_region_lit ?_)
    | (with_reducible refine wp_block ?_)
    | (with_reducible refine wp_ret ?_)
    | ((with_reducible refine wp_seq_k ?_); intro _ _)
    | (go_at_K; go_step)
    | (simp only [Exit.then, Exit.inBlock, ↓reduceIte, Nat.reduceEqDiff]))
      ((try simp only [Exit.inBlock, Exit.then]); refine Sy.st_ret1 T F rfl (by repeat (first | exact Sy.ResV.nil | apply Sy.ResV.tmp rfl | apply Sy.ResV.row rfl rfl rfl (by repeat (first | exact Sy.Take.here | apply Sy.Take.there)) (by rfl) | apply Sy.ResV.one rfl rfl rfl (by repeat (first | exact Sy.Take.here | apply Sy.Take.there)) (by rfl))) ?_)
      exact retBb F hm
    · rw [t1, t2, t3] at ht; cases ht
  all_goals
    rw [hm]
    rcases and6 (decide ((r.inc : Int) > 0)) (inS r.state 32) (decide ((r.vars.length : Int) ≤ 8)) (donesS r.done) (cellsS r.out r.last) (marksS r.marks) with t1 | ⟨t1, t2⟩ | ⟨t1, t2, t3⟩ | ⟨t1, t2, t3, t4⟩ | ⟨t1, t2, t3, t4, t5⟩ | ⟨t1, t2, t3, t4, t5, t6⟩ | ⟨t1, t2, t3, t4, t5, t6⟩
    all_goals
      refine Sy.enter Try.func51 rfl Try.ntmps51 rfl ?_; intro ac T; simp only [Sy.enum, Nat.zero_add, Nat.reduceAdd] at T
      repeat (first
    | (((with_reducible refine Sy.is_guard ?_); (first
    | refine Sy.st_guard T (h := ?_)
    | (refine Sy.st_unguard T (h := ?_); clear T; intro ac T))))
    | (((with_reducible refine Sy.is_load ?_); (refine Sy.st_loadOne T F (h := ?_)); clear T; intro ac T))
    | (((with_reducible refine Sy.is_box ?_); (refine Sy.st_boxAgg T F (h := ?_)); clear T F; intro ac g w T F))
    | (((with_reducible refine Sy.is_op ?_); refine Sy.st_pure T (h := ?_); clear T; intro ac T))
    | ((with_reducible refine Sy.is_cond ?_); (first
    | refine Sy.st_true T (h := ?_)
    | refine Sy.st_false T (h := ?_)))
    | (with_reducible refine wpList_nil ?_)
    | (with_reducible refine wp_region_lit ?_)
    | (with_reducible refine wp_block ?_)
    | (with_reducible refine wp_skip ?_)
    | (with_reducible refine wp_ret ?_)
    | ((with_reducible refine wp_seq_k ?_); intro _ _)
    | (go_at_K; go_step)
    | (simp only [Exit.then, Exit.inBlock, ↓reduceIte, Nat.reduceEqDiff]))
      try (refine Sy.st_callV0 T F (hc := in_any _ _ _ t2) (h := ?_); (clear T F; intro ac w T F))
      repeat (first
    | (((with_reducible refine Sy.is_guard ?_); (first
    | refine Sy.st_guard T (h := ?_)
    | (refine Sy.st_unguard T (h := ?_); clear T; intro ac T))))
    | (((with_reducible refine Sy.is_load ?_); (refine Sy.st_loadOne T F (h := ?_)); clear T; intro ac T))
    | (((with_reducible refine Sy.is_op ?_); refine Sy.st_pure T (h := ?_); clear T; intro ac T))
    | (with_reducible refine wpList_nil ?_)
    | (with_reducible refine wp_ret ?_)
    | (go_at_K; go_step)
    | (simp only [Exit.then, Exit.inBlock, ↓reduceIte, Nat.reduceEqDiff]))
      try (have G := dones_any w (h.sub F.sub).done (cap := p.dc) t4
           refine Sy.st_callV0 T F (hc := G) (h := ?_); (clear T F; intro ac w T F); clear G)
      repeat (first
    | (((with_reducible refine Sy.is_guard ?_); (first
    | refine Sy.st_guard T (h := ?_)
    | (refine Sy.st_unguard T (h := ?_); clear T; intro ac T))))
    | (((with_reducible refine Sy.is_load ?_); (refine Sy.st_loadOne T F (h := ?_)); clear T; intro ac T))
    | (((with_reducible refine Sy.is_op ?_); refine Sy.st_pure T (h := ?_); clear T; intro ac T))
    | (with_reducible refine wpList_nil ?_)
    | (with_reducible refine wp_ret ?_)
    | (go_at_K; go_step)
    | (simp only [Exit.then, Exit.inBlock, ↓reduceIte, Nat.reduceEqDiff]))
      try (have G := cells_any w (h.sub F.sub).out r.last (cap := p.oc) t5
           refine Sy.st_callV0 T F (hc := G) (h := ?_); (clear T F; intro ac w T F); clear G)
      repeat (first
    | (((with_reducible refine Sy.is_guard ?_); (first
    | refine Sy.st_guard T (h := ?_)
    | (refine Sy.st_unguard T (h := ?_); clear T; intro ac T))))
    | (((with_reducible refine Sy.is_load ?_); (refine Sy.st_loadOne T F (h := ?_)); clear T; intro ac T))
    | (((with_reducible refine Sy.is_op ?_); refine Sy.st_pure T (h := ?_); clear T; intro ac T))
    | (with_reducible refine wpList_nil ?_)
    | (with_reducible refine wp_ret ?_)
    | (go_at_K; go_step)
    | (simp only [Exit.then, Exit.inBlock, ↓reduceIte, Nat.reduceEqDiff]))
      try (have G := marks_any w (h.sub F.sub).marks (cap := p.mc) t6
           refine Sy.st_callV0 T F (hc := G) (h := ?_); (clear T F; intro ac w T F); clear G)
      repeat (first
    | (((with_reducible refine Sy.is_op ?_); refine Sy.st_pure T (h := ?_); clear T; intro ac T))
    | (with_reducible refine wpList_nil ?_)
    | (with_reducible refine wp_ret ?_)
    | (go_at_K; go_step)
    | (simp only [Exit.then, Exit.inBlock, ↓reduceIte, Nat.reduceEqDiff]))
      ((try simp only [Exit.inBlock, Exit.then]); refine Sy.st_ret1 T F rfl (by repeat (first | exact Sy.ResV.nil | apply Sy.ResV.tmp rfl | apply Sy.ResV.row rfl rfl rfl (by repeat (first | exact Sy.Take.here | apply Sy.Take.there)) (by rfl) | apply Sy.ResV.one rfl rfl rfl (by repeat (first | exact Sy.Take.here | apply Sy.Take.there)) (by rfl))) ?_)
      exact retBb F (by first | (unfold coreS; rw [t1, t2, t3, t4, t5, t6]; rfl) | (unfold coreS; rw [t1, t2, t3, t4, t5]; rfl) | (unfold coreS; rw [t1, t2, t3, t4]; rfl) | (unfold coreS; rw [t1, t2, t3]; rfl) | (unfold coreS; rw [t1, t2]; rfl) | (unfold coreS; rw [t1]; rfl))
end Rg
end Go.Proofs.Ytniopkoaplkpkaa
