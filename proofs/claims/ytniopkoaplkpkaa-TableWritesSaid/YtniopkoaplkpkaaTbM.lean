/- The walk of table.May and what it calls. Conditions: the contract can be read. -/
import Derived.Test.YtniopkoaplkpkaaTbD
import Derived.Test.YtniopkoaplkpkaaExpC
import Derived.Test.YtniopkoaplkpkaaSyD
namespace Go.Proofs.Ytniopkoaplkpkaa
open Go.RowKit
set_option linter.unusedVariables false
set_option linter.unusedSimpArgs false
theorem Sy.cell_ownI {w : World} {g : Nat} {cs : List Value} {t : TypeId} (h : w.heap[g]? = some (.cells cs.toArray t (0, 0))) (i : Nat) {v : Value} (hv : cs[i]? = some v) : w.cell? ⟨g, i, none⟩ = some v := by simp [World.cell?, h, hv]
namespace Tb
open Sy (RetV RetM Sub)
open Rg (and2 and3 and4 and5 and6 and7 and8 and9 or2 or3 or4 or5 or6 or7 retBb not_t not_f eqT eqF i64_up i64_wrap ClosB any_up any_hit)
def inS (n e : Int) : Bool := decide (n ≥ 0) && decide (n < e)
set_option maxRecDepth 20000 in
theorem in_any (w : World) (n e : Int) {r0 : Bool} (hres : inS n e = r0) : Calls Try.prog 111 #[.int .i64 n, .int .i64 e] w (RetV w (.bool r0)) := by
  have F := Sy.Mem.start (Sub.refl w)
  subst hres
  rcases and2 (decide (n ≥ 0)) (decide (n < e)) with t1 | ⟨t1, t2⟩ | ⟨t1, t2⟩
  all_goals
    refine Sy.enter Try.func111 rfl Try.ntmps111 rfl ?_; intro ac T; simp only [Sy.enum, Nat.zero_add, Nat.reduceAdd] at T
    repeat (first
    | (((with_reducible refine Sy.is_guard ?_); (first | refine Sy.st_guard T (h := ?_) | (refine Sy.st_unguard T (h := ?_); clear T; intro ac T))))
    | (((with_reducible refine Sy.is_op ?_); refine Sy.st_pure T (h := ?_); clear T; intro ac T))
    | ((with_reducible refine Sy.atK (hK _ _ ?_)))
    | ((with_reducible refine Sy.is_cond ?_); (first | refine Sy.st_true T (h := ?_) | refine Sy.st_false T (h := ?_)))
    | (with_reducible refine wpList_nil ?_)
    | (with_reducible refine wp_region_lit ?_)
    | (with_reducible refine wp_block ?_)
    | (with_reducible refine wp_skip ?_)
    | (with_reducible refine wp_exit ?_)
    | (with_reducible refine wp_ret ?_)
    | ((with_reducible refine wp_seq_k ?_); intro _ _)
    | (go_at_K; go_step)
    | (simp only [Exit.then, Exit.inBlock, ↓reduceIte, Nat.reduceEqDiff]))
    ((try simp only [Exit.inBlock, Exit.then]); refine Sy.st_ret1 T F rfl (by repeat (first | exact Sy.ResV.nil | apply Sy.ResV.tmp rfl | apply Sy.ResV.row rfl rfl rfl (by repeat (first | exact Sy.Take.here | apply Sy.Take.there)) (by rfl) | apply Sy.ResV.one rfl rfl rfl (by repeat (first | exact Sy.Take.here | apply Sy.Take.there)) (by rfl))) ?_)
    exact retBb F (by first | (unfold inS; rw [t1, t2]; rfl) | (unfold inS; rw [t1]; rfl))
set_option maxRecDepth 20000 in
theorem below_any (w : World) (n e : Int) {r0 : Bool} (hres : inS n e = r0) : Calls Try.prog 115 #[.int .i64 n, .int .i64 e] w (RetV w (.bool r0)) := by
  have F := Sy.Mem.start (Sub.refl w)
  subst hres
  rcases and2 (decide (n ≥ 0)) (decide (n < e)) with t1 | ⟨t1, t2⟩ | ⟨t1, t2⟩
  all_goals
    refine Sy.enter Try.func115 rfl Try.ntmps115 rfl ?_; intro ac T; simp only [Sy.enum, Nat.zero_add, Nat.reduceAdd] at T
    repeat (first
    | (((with_reducible refine Sy.is_guard ?_); (first | refine Sy.st_guard T (h := ?_) | (refine Sy.st_unguard T (h := ?_); clear T; intro ac T))))
    | (((with_reducible refine Sy.is_op ?_); refine Sy.st_pure T (h := ?_); clear T; intro ac T))
    | ((with_reducible refine Sy.atK (hK _ _ ?_)))
    | ((with_reducible refine Sy.is_cond ?_); (first | refine Sy.st_true T (h := ?_) | refine Sy.st_false T (h := ?_)))
    | (with_reducible refine wpList_nil ?_)
    | (with_reducible refine wp_region_lit ?_)
    | (with_reducible refine wp_block ?_)
    | (with_reducible refine wp_skip ?_)
    | (with_reducible refine wp_exit ?_)
    | (with_reducible refine wp_ret ?_)
    | ((with_reducible refine wp_seq_k ?_); intro _ _)
    | (go_at_K; go_step)
    | (simp only [Exit.then, Exit.inBlock, ↓reduceIte, Nat.reduceEqDiff]))
    ((try simp only [Exit.inBlock, Exit.then]); refine Sy.st_ret1 T F rfl (by repeat (first | exact Sy.ResV.nil | apply Sy.ResV.tmp rfl | apply Sy.ResV.row rfl rfl rfl (by repeat (first | exact Sy.Take.here | apply Sy.Take.there)) (by rfl) | apply Sy.ResV.one rfl rfl rfl (by repeat (first | exact Sy.Take.here | apply Sy.Take.there)) (by rfl))) ?_)
    exact retBb F (by first | (unfold inS; rw [t1, t2]; rfl) | (unfold inS; rw [t1]; rfl))
theorem exMay (w : World) {a : Option Addr} {n cap : Nat} {l : List Ex.Tok} {vars : Int} (h : Ex.Toks w a n l) {b : Bool} (hb : Ex.mayS l vars = b) : Calls Try.prog 112 #[.slice a n cap, .int .i64 vars] w (RetV w (.bool b)) := by
  rw [← hb]; exact Ex.may_any a n cap l vars w h
theorem exMayR (w : World) {a : Option Addr} {n cap : Nat} {l : List Ex.Tok} {vars : Int} (h : Ex.Toks w a n l) {b : Bool} (hb : Ex.mayS l vars = b) : Calls Try.prog 116 #[.slice a n cap, .int .i64 vars] w (RetV w (.bool b)) := by
  rw [← hb, Ex.may_eq]; exact Ex.mayR_any a n cap l vars w h
def badE (vars : Int) (e : EmitD) : Bool := decide ((e.target : Int) ≥ 16) || (!inS e.action 32 || !Ex.mayS e.arg vars)
set_option maxRecDepth 20000 in
set_option maxHeartbeats 1000000 in
theorem rule1_any (w : World) (vars : Int) (e : EmitD) {cs : List Value} (hr : EmitR w cs e) (g : Nat) (hg : w.cell? ⟨g, 1, none⟩ = some (.int .i64 vars)) : Calls Try.prog 114 #[.agg cs.toArray, .pointer (some ⟨g, 0, none⟩)] w (RetV w (.bool (badE vars e))) := by
  obtain ⟨a, c, rfl, h8, hi, ht⟩ := hr
  have F := Sy.Mem.start (Sub.refl w)
  rcases or3 (decide ((e.target : Int) ≥ 16)) (!inS e.action 32) (!Ex.mayS e.arg vars) with t1 | ⟨t1, t2⟩ | ⟨t1, t2, t3⟩ | ⟨t1, t2, t3⟩
  all_goals
    refine Sy.enter Try.func114 rfl Try.ntmps114 rfl ?_; intro ac T; simp only [Sy.enum, Nat.zero_add, Nat.reduceAdd] at T
    repeat (first
    | (((with_reducible refine Sy.is_guard ?_); (first | refine Sy.st_guard T (h := ?_) | (refine Sy.st_unguard T (h := ?_); clear T; intro ac T))))
    | (((with_reducible refine Sy.is_load ?_); (first | refine Sy.st_loadOne T F (h := ?_) | refine Sy.st_oldOne T F (h := ?_) | refine Sy.st_loadAll T F (h := ?_) | (refine Sy.st_loadCut T F (h := ?_); conv => whnf) | refine Sy.st_oldAgg T F (h := ?_) | (refine Sy.st_oldCut T F (h := ?_); conv => whnf)); clear T; intro ac T))
    | (((with_reducible refine Sy.is_box ?_); (first | refine Sy.st_boxAgg T F (h := ?_) | refine Sy.st_boxOne T F (h := ?_)); clear T F; intro ac g w T F))
    | (((with_reducible refine Sy.is_op ?_); refine Sy.st_pure T (h := ?_); clear T; intro ac T))
    | ((with_reducible refine Sy.atK (hK _ _ ?_)))
    | ((with_reducible refine Sy.is_cond ?_); (first | refine Sy.st_true T (h := ?_) | refine Sy.st_false T (h := ?_)))
    | (with_reducible refine wpList_nil ?_)
    | (with_reducible refine wp_region_lit ?_)
    | (with_reducible refine wp_block ?_)
    | (with_reducible refine wp_skip ?_)
    | (with_reducible refine wp_exit ?_)
    | (with_reducible refine wp_ret ?_)
    | ((with_reducible refine wp_seq_k ?_); intro _ _)
    | (go_at_K; go_step)
    | (simp only [Exit.then, Exit.inBlock, ↓reduceIte, Nat.reduceEqDiff]))
    try (refine Sy.st_callV0 T F (hc := in_any _ _ _ (not_t t2)) (h := ?_); (clear T F; intro ac w T F))
    try (refine Sy.st_callV0 T F (hc := in_any _ _ _ (not_f t2)) (h := ?_); (clear T F; intro ac w T F))
    repeat (first
    | (((with_reducible refine Sy.is_guard ?_); (first | refine Sy.st_guard T (h := ?_) | (refine Sy.st_unguard T (h := ?_); clear T; intro ac T))))
    | (((with_reducible refine Sy.is_load ?_); (first | refine Sy.st_loadOne T F (h := ?_) | refine Sy.st_oldOne T F (h := ?_) | refine Sy.st_loadAll T F (h := ?_) | (refine Sy.st_loadCut T F (h := ?_); conv => whnf) | refine Sy.st_oldAgg T F (h := ?_) | (refine Sy.st_oldCut T F (h := ?_); conv => whnf)); clear T; intro ac T))
    | (((with_reducible refine Sy.is_box ?_); (first | refine Sy.st_boxAgg T F (h := ?_) | refine Sy.st_boxOne T F (h := ?_)); clear T F; intro ac g w T F))
    | (((with_reducible refine Sy.is_op ?_); refine Sy.st_pure T (h := ?_); clear T; intro ac T))
    | ((with_reducible refine Sy.atK (hK _ _ ?_)))
    | ((with_reducible refine Sy.is_cond ?_); (first | refine Sy.st_true T (h := ?_) | refine Sy.st_false T (h := ?_)))
    | (with_reducible refine wpList_nil ?_)
    | (with_reducible refine wp_region_lit ?_)
    | (with_reducible refine wp_block ?_)
    | (with_reducible refine wp_skip ?_)
    | (with_reducible refine wp_exit ?_)
    | (with_reducible refine wp_ret ?_)
    | ((with_reducible refine wp_seq_k ?_); intro _ _)
    | (go_at_K; go_step)
    | (simp only [Exit.then, Exit.inBlock, ↓reduceIte, Nat.reduceEqDiff]))
    try (refine Sy.st_callV0 T F (hc := exMay _ (ht.sub F.sub) (not_t t3)) (h := ?_); (clear T F; intro ac w T F))
    try (refine Sy.st_callV0 T F (hc := exMay _ (ht.sub F.sub) (not_f t3)) (h := ?_); (clear T F; intro ac w T F))
    repeat (first
    | (((with_reducible refine Sy.is_guard ?_); (first | refine Sy.st_guard T (h := ?_) | (refine Sy.st_unguard T (h := ?_); clear T; intro ac T))))
    | (((with_reducible refine Sy.is_load ?_); (first | refine Sy.st_loadOne T F (h := ?_) | refine Sy.st_oldOne T F (h := ?_) | refine Sy.st_loadAll T F (h := ?_) | (refine Sy.st_loadCut T F (h := ?_); conv => whnf) | refine Sy.st_oldAgg T F (h := ?_) | (refine Sy.st_oldCut T F (h := ?_); conv => whnf)); clear T; intro ac T))
    | (((with_reducible refine Sy.is_box ?_); (first | refine Sy.st_boxAgg T F (h := ?_) | refine Sy.st_boxOne T F (h := ?_)); clear T F; intro ac g w T F))
    | (((with_reducible refine Sy.is_op ?_); refine Sy.st_pure T (h := ?_); clear T; intro ac T))
    | ((with_reducible refine Sy.atK (hK _ _ ?_)))
    | ((with_reducible refine Sy.is_cond ?_); (first | refine Sy.st_true T (h := ?_) | refine Sy.st_false T (h := ?_)))
    | (with_reducible refine wpList_nil ?_)
    | (with_reducible refine wp_region_lit ?_)
    | (with_reducible refine wp_block ?_)
    | (with_reducible refine wp_skip ?_)
    | (with_reducible refine wp_exit ?_)
    | (with_reducible refine wp_ret ?_)
    | ((with_reducible refine wp_seq_k ?_); intro _ _)
    | (go_at_K; go_step)
    | (simp only [Exit.then, Exit.inBlock, ↓reduceIte, Nat.reduceEqDiff]))
    ((try simp only [Exit.inBlock, Exit.then]); refine Sy.st_ret1 T F rfl (by repeat (first | exact Sy.ResV.nil | apply Sy.ResV.tmp rfl | apply Sy.ResV.row rfl rfl rfl (by repeat (first | exact Sy.Take.here | apply Sy.Take.there)) (by rfl) | apply Sy.ResV.one rfl rfl rfl (by repeat (first | exact Sy.Take.here | apply Sy.Take.there)) (by rfl))) ?_)
    exact retBb F (by first | (unfold badE; rw [t1, t2, t3]; rfl) | (unfold badE; rw [t1, t2]; rfl) | (unfold badE; rw [t1]; rfl))
theorem clos_badE {w : World} {l : List EmitD} {vars : Int} {g : Nat} (hg : w.cell? ⟨g, 1, none⟩ = some (.int .i64 vars)) : ClosB EmitR w 114 [.pointer (some ⟨g, 0, none⟩)] l (badE vars) := fun w' m h1 h2 d _ cs hr =>
  rule1_any w' vars d (hr.sub h2) g (h2 _ _ (h1 _ _ hg))
def leP (p : Option Int) (v : Int) : Bool := match p with | none => false | some q => decide (v ≤ q)
def badS (vars : Int) (p : Option Int) (s : SetD) : Bool := !inS s.var vars || (leP p s.var || !Ex.mayS s.val vars)
def setsS (vars : Int) : Option Int → List SetD → Bool
  | _, [] => true
  | p, s :: r => !badS vars p s && setsS vars (some s.var) r
def prevAt (l : List SetD) (k : Nat) : Option Int := if k = 0 then none else (l[k - 1]?).map (·.var)
theorem sets_go {vars : Int} {l : List SetD} {k : Nat} (hk : k < l.length) (h : badS vars (prevAt l k) l[k] = false) : setsS vars (prevAt l k) (l.drop k) = setsS vars (prevAt l (k + 1)) (l.drop (k + 1)) := by
  rw [List.drop_eq_getElem_cons hk, setsS, h]
  simp [prevAt, hk]
theorem sets_no {vars : Int} {l : List SetD} {k : Nat} (hk : k < l.length) (h : badS vars (prevAt l k) l[k] = true) : setsS vars (prevAt l k) (l.drop k) = false := by
  rw [List.drop_eq_getElem_cons hk, setsS, h]
  rfl
def headS (states : Int) (r : RuleD) : Bool := inS r.src states && (inS r.dst states && (inS r.action 32 && (inS r.party 8 && (!decide ((r.sets.length : Int) > 8) && !decide ((r.emits.length : Int) > 4)))))
def ruleS (states vars : Int) (r : RuleD) : Bool := headS states r && ((!decide ((r.guard.length : Int) > 0) || Ex.mayS r.guard vars) && (setsS vars none r.sets && !r.emits.any (badE vars)))
def mayS (t : TabD) : Bool := !decide (t.states < 1) && (!decide (t.states > 32) && (!decide (t.vars < 0) && (!decide (t.vars > 8) && (!decide ((t.rules.length : Int) > 32) && !t.rules.any fun r => !ruleS t.states t.vars r))))
end Tb
end Go.Proofs.Ytniopkoaplkpkaa
