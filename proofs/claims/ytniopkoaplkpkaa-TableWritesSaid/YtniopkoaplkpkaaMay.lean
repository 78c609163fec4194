/- The walks of reg.May and what it calls. Conditions: the register can be read. Printed by a program (genmay.py). -/
import Derived.Test.YtniopkoaplkpkaaIdx
namespace Go.Proofs.Ytniopkoaplkpkaa
theorem Sy.cell_own {w : World} {g : Nat} {v : Value} {t : TypeId} (h : w.heap[g]? = some (.cells [v].toArray t (0, 0))) : w.cell? ⟨g, 0, none⟩ = some v := by simp [World.cell?, h]
open Go.RowKit
set_option linter.unusedVariables false
set_option linter.unusedSimpArgs false
namespace Rg
open Sy (RetV RetM Sub)
def inS (n e : Int) : Bool := decide (n ≥ 0) && decide (n < e)

set_option maxRecDepth 20000 in
set_option maxHeartbeats 2000000 in
theorem in_any (w : World) (n e : Int) {r0 : Bool} (hres : inS n e = r0) : Calls Try.prog 94 #[.int .i64 n, .int .i64 e] w (RetV w (.bool r0)) := by
  have F := Sy.Mem.start (Sub.refl w)
  subst hres
  rcases and2 (decide (n ≥ 0)) (decide (n < e)) with t1 | ⟨t1, t2⟩ | ⟨t1, t2⟩
  all_goals
    refine Sy.enter Try.func94 rfl Try.ntmps94 rfl ?_; intro ac T; simp only [Sy.enum, Nat.zero_add, Nat.reduceAdd] at T
    repeat (first
    | (((with_reducible refine Sy.is_guard ?_); (first
    | refine Sy.st_guard T (h := ?_)
    | (refine Sy.st_unguard T (h := ?_); clear T; intro ac T))))
    | (((with_reducible refine Sy.is_op ?_); refine Sy.st_pure T (h := ?_); clear T; intro ac T))
    | (with_reducible refine wpList_nil ?_)
    | (with_reducible refine wp_region_lit ?_)
    | (with_reducible refine wp_ret ?_)
    | ((with_reducible refine wp_seq_k ?_); intro _ _)
    | (go_at_K; go_step)
    | (simp only [Exit.then, Exit.inBlock, ↓reduceIte, Nat.reduceEqDiff]))
    ((try simp only [Exit.inBlock, Exit.then]); refine Sy.st_ret1 T F rfl (by repeat (first | exact Sy.ResV.nil | apply Sy.ResV.tmp rfl | apply Sy.ResV.row rfl rfl rfl (by repeat (first | exact Sy.Take.here | apply Sy.Take.there)) (by rfl) | apply Sy.ResV.one rfl rfl rfl (by repeat (first | exact Sy.Take.here | apply Sy.Take.there)) (by rfl))) ?_)
    exact retBb F (by first | (unfold inS; rw [t1, t2]; rfl) | (unfold inS; rw [t1]; rfl))
def replyS (r : RepD) : Bool := decide (r.err ≥ 0) && (decide (r.err ≤ 99) && (inS r.state 32 && decide ((r.vars.length : Int) ≤ 8)))

set_option maxRecDepth 20000 in
set_option maxHeartbeats 2000000 in
theorem reply_any (w : World) (r : RepD) (p : RepA) {r0 : Bool} (hres : replyS r = r0) : Calls Try.prog 120 #[.agg (repCs r p).toArray] w (RetV w (.bool r0)) := by
  have F := Sy.Mem.start (Sub.refl w)
  subst hres
  rcases and4 (decide (r.err ≥ 0)) (decide (r.err ≤ 99)) (inS r.state 32) (decide ((r.vars.length : Int) ≤ 8)) with t1 | ⟨t1, t2⟩ | ⟨t1, t2, t3⟩ | ⟨t1, t2, t3, t4⟩ | ⟨t1, t2, t3, t4⟩
  all_goals
    refine Sy.enter Try.func120 rfl Try.ntmps120 rfl ?_; intro ac T; simp only [Sy.enum, Nat.zero_add, Nat.reduceAdd] at T
    repeat (first
    | (((with_reducible refine Sy.is_guard ?_); (first
    | refine Sy.st_guard T (h := ?_)
    | (refine Sy.st_unguard T (h := ?_); clear T; intro ac T))))
    | (((with_reducible refine Sy.is_load ?_); (refine Sy.st_loadOne T F (h := ?_)); clear T; intro ac T))
    | (((with_reducible refine Sy.is_box ?_); (refine Sy.st_boxAgg T F (h := ?_)); clear T F; intro ac g w T F))
    | (((with_reducible refine Sy.is_op ?_); refine Sy.st_pure T (h := ?_); clear T; intro ac T))
    | (with_reducible refine wpList_nil ?_)
    | (with_reducible refine wp_region_lit ?_)
    | (with_reducible refine wp_ret ?_)
    | ((with_reducible refine wp_seq_k ?_); intro _ _)
    | (go_at_K; go_step)
    | (simp only [Exit.then, Exit.inBlock, ↓reduceIte, Nat.reduceEqDiff]))
    try (refine Sy.st_callV0 T F (hc := in_any _ _ _ t3) (h := ?_); (clear T F; intro ac w T F))
    repeat (first
    | (((with_reducible refine Sy.is_guard ?_); (first
    | refine Sy.st_guard T (h := ?_)
    | (refine Sy.st_unguard T (h := ?_); clear T; intro ac T))))
    | (((with_reducible refine Sy.is_load ?_); (refine Sy.st_loadOne T F (h := ?_)); clear T; intro ac T))
    | (((with_reducible refine Sy.is_op ?_); refine Sy.st_pure T (h := ?_); clear T; intro ac T))
    | (with_reducible refine wpList_nil ?_)
    | (with_reducible refine wp_ret ?_)
    | (go_at_K; go_step)
    | (simp only [Exit.then, Exit.inBlock, ↓reduceIte, Nat.reduceEqDiff]))
    ((try simp only [Exit.inBlock, Exit.then]); refine Sy.st_ret1 T F rfl (by repeat (first | exact Sy.ResV.nil | apply Sy.ResV.tmp rfl | apply Sy.ResV.row rfl rfl rfl (by repeat (first | exact Sy.Take.here | apply Sy.Take.there)) (by rfl) | apply Sy.ResV.one rfl rfl rfl (by repeat (first | exact Sy.Take.here | apply Sy.Take.there)) (by rfl))) ?_)
    exact retBb F (by first | (unfold replyS; rw [t1, t2, t3, t4]; rfl) | (unfold replyS; rw [t1, t2, t3]; rfl) | (unfold replyS; rw [t1, t2]; rfl) | (unfold replyS; rw [t1]; rfl))
def dbadS (d : DoneD) : Bool := decide ((d.client : Int) > 8) || (((d.seq : Int) == 0) || !replyS d.rep)

set_option maxRecDepth 20000 in
set_option maxHeartbeats 2000000 in
theorem dones1_any (w : World) (d : DoneD) (p : RepA) {r0 : Bool} (hres : dbadS d = r0) : Calls Try.prog 119 #[.agg (doneCs d p).toArray] w (RetV w (.bool r0)) := by
  have F := Sy.Mem.start (Sub.refl w)
  subst hres
  rcases or3 (decide ((d.client : Int) > 8)) ((d.seq : Int) == 0) (!replyS d.rep) with t1 | ⟨t1, t2⟩ | ⟨t1, t2, t3⟩ | ⟨t1, t2, t3⟩
  all_goals
    refine Sy.enter Try.func119 rfl Try.ntmps119 rfl ?_; intro ac T; simp only [Sy.enum, Nat.zero_add, Nat.reduceAdd] at T
    repeat (first
    | (((with_reducible refine Sy.is_guard ?_); (first
    | refine Sy.st_guard T (h := ?_)
    | (refine Sy.st_unguard T (h := ?_); clear T; intro ac T))))
    | (((with_reducible refine Sy.is_load ?_); (first
    | refine Sy.st_loadOne T F (h := ?_)
    | (refine Sy.st_loadCut T F (h := ?_); conv => whnf)); clear T; intro ac T))
    | (((with_reducible refine Sy.is_box ?_); (refine Sy.st_boxAgg T F (h := ?_)); clear T F; intro ac g w T F))
    | (((with_reducible refine Sy.is_op ?_); refine Sy.st_pure T (h := ?_); clear T; intro ac T))
    | (with_reducible refine wpList_nil ?_)
    | (with_reducible refine wp_region_lit ?_)
    | (with_reducible refine wp_ret ?_)
    | ((with_reducible refine wp_seq_k ?_); intro _ _)
    | (go_at_K; go_step)
    | (simp only [Exit.then, Exit.inBlock, ↓reduceIte, Nat.reduceEqDiff]))
    try (have u3 : replyS d.rep = true := by (revert t3; cases replyS d.rep <;> simp)
         refine Sy.st_callV0 T F (hc := reply_any _ d.rep p u3) (h := ?_); (clear T F; intro ac w T F))
    try (have u3 : replyS d.rep = false := by (revert t3; cases replyS d.rep <;> simp)
         refine Sy.st_callV0 T F (hc := reply_any _ d.rep p u3) (h := ?_); (clear T F; intro ac w T F))
    repeat (first
    | (((with_reducible refine Sy.is_guard ?_); (refine Sy.st_guard T (h := ?_))))
    | (((with_reducible refine Sy.is_op ?_); refine Sy.st_pure T (h := ?_); clear T; intro ac T))
    | (with_reducible refine wpList_nil ?_)
    | (with_reducible refine wp_ret ?_)
    | (go_at_K; go_step)
    | (simp only [Exit.then, Exit.inBlock, ↓reduceIte, Nat.reduceEqDiff]))
    ((try simp only [Exit.inBlock, Exit.then]); refine Sy.st_ret1 T F rfl (by repeat (first | exact Sy.ResV.nil | apply Sy.ResV.tmp rfl | apply Sy.ResV.row rfl rfl rfl (by repeat (first | exact Sy.Take.here | apply Sy.Take.there)) (by rfl) | apply Sy.ResV.one rfl rfl rfl (by repeat (first | exact Sy.Take.here | apply Sy.Take.there)) (by rfl))) ?_)
    exact retBb F (by first | (unfold dbadS; rw [t1, t2, t3]; rfl) | (unfold dbadS; rw [t1, t2]; rfl) | (unfold dbadS; rw [t1]; rfl))

set_option maxRecDepth 20000 in
theorem dones2_any (w : World) (d : DoneD) (p : RepA) (hd : U8 d.client) : Calls Try.prog 122 #[.agg (doneCs d p).toArray] w (RetV w (.int .u64 (d.client : Int))) := by
  have F := Sy.Mem.start (Sub.refl w)
  have t1 : IntKind.u64.wrap (d.client : Int) = (d.client : Int) := by unfold U8 at hd; rw [IntKind.wrap_u64]; omega
  refine Sy.enter Try.func122 rfl Try.ntmps122 rfl ?_; intro ac T; simp only [Sy.enum, Nat.zero_add, Nat.reduceAdd] at T
  repeat (first
    | (((with_reducible refine Sy.is_load ?_); (refine Sy.st_loadOne T F (h := ?_)); clear T; intro ac T))
    | (((with_reducible refine Sy.is_box ?_); (refine Sy.st_boxAgg T F (h := ?_)); clear T F; intro ac g w T F))
    | (((with_reducible refine Sy.is_op ?_); refine Sy.st_pure T (h := ?_); clear T; intro ac T))
    | (with_reducible refine wpList_nil ?_)
    | (with_reducible refine wp_region_lit ?_)
    | (with_reducible refine wp_ret ?_)
    | ((with_reducible refine wp_seq_k ?_); intro _ _)
    | (go_at_K; go_step)
    | (simp only [Exit.then, Exit.inBlock, ↓reduceIte, Nat.reduceEqDiff]))
  ((try simp only [Exit.inBlock, Exit.then]); refine Sy.st_ret1 T F rfl (by repeat (first | exact Sy.ResV.nil | apply Sy.ResV.tmp rfl | apply Sy.ResV.row rfl rfl rfl (by repeat (first | exact Sy.Take.here | apply Sy.Take.there)) (by rfl) | apply Sy.ResV.one rfl rfl rfl (by repeat (first | exact Sy.Take.here | apply Sy.Take.there)) (by rfl))) ?_)
  exact F.retV _
set_option maxRecDepth 20000 in
theorem cells2_any (w : World) (d : CellD) : Calls Try.prog 126 #[.agg #[.int .u64 (d.n : Int), .int .u8 (d.target : Int), .int .i64 d.action, .int .i64 d.arg]] w (RetV w (.int .u64 (d.n : Int))) := by
  have F := Sy.Mem.start (Sub.refl w)
  refine Sy.enter Try.func126 rfl Try.ntmps126 rfl ?_; intro ac T; simp only [Sy.enum, Nat.zero_add, Nat.reduceAdd] at T
  repeat (first
    | (((with_reducible refine Sy.is_load ?_); (refine Sy.st_loadOne T F (h := ?_)); clear T; intro ac T))
    | (((with_reducible refine Sy.is_box ?_); (refine Sy.st_boxAgg T F (h := ?_)); clear T F; intro ac g w T F))
    | (((with_reducible refine Sy.is_op ?_); refine Sy.st_pure T (h := ?_); clear T; intro ac T))
    | (with_reducible refine wpList_nil ?_)
    | (with_reducible refine wp_region_lit ?_)
    | (with_reducible refine wp_ret ?_)
    | ((with_reducible refine wp_seq_k ?_); intro _ _)
    | (go_at_K; go_step)
    | (simp only [Exit.then, Exit.inBlock, ↓reduceIte, Nat.reduceEqDiff]))
  ((try simp only [Exit.inBlock, Exit.then]); refine Sy.st_ret1 T F rfl (by repeat (first | exact Sy.ResV.nil | apply Sy.ResV.tmp rfl | apply Sy.ResV.row rfl rfl rfl (by repeat (first | exact Sy.Take.here | apply Sy.Take.there)) (by rfl) | apply Sy.ResV.one rfl rfl rfl (by repeat (first | exact Sy.Take.here | apply Sy.Take.there)) (by rfl))) ?_)
  exact F.retV _
set_option maxRecDepth 20000 in
theorem marks2_any (w : World) (d : MarkD) (hd : U8 d.source) : Calls Try.prog 130 #[.agg #[.int .u8 (d.source : Int), .int .u64 (d.inc : Int), .int .u64 (d.cell : Int)]] w (RetV w (.int .u64 (d.source : Int))) := by
  have F := Sy.Mem.start (Sub.refl w)
  have t1 : IntKind.u64.wrap (d.source : Int) = (d.source : Int) := by unfold U8 at hd; rw [IntKind.wrap_u64]; omega
  refine Sy.enter Try.func130 rfl Try.ntmps130 rfl ?_; intro ac T; simp only [Sy.enum, Nat.zero_add, Nat.reduceAdd] at T
  repeat (first
    | (((with_reducible refine Sy.is_load ?_); (refine Sy.st_loadOne T F (h := ?_)); clear T; intro ac T))
    | (((with_reducible refine Sy.is_box ?_); (refine Sy.st_boxAgg T F (h := ?_)); clear T F; intro ac g w T F))
    | (((with_reducible refine Sy.is_op ?_); refine Sy.st_pure T (h := ?_); clear T; intro ac T))
    | (with_reducible refine wpList_nil ?_)
    | (with_reducible refine wp_region_lit ?_)
    | (with_reducible refine wp_ret ?_)
    | ((with_reducible refine wp_seq_k ?_); intro _ _)
    | (go_at_K; go_step)
    | (simp only [Exit.then, Exit.inBlock, ↓reduceIte, Nat.reduceEqDiff]))
  ((try simp only [Exit.inBlock, Exit.then]); refine Sy.st_ret1 T F rfl (by repeat (first | exact Sy.ResV.nil | apply Sy.ResV.tmp rfl | apply Sy.ResV.row rfl rfl rfl (by repeat (first | exact Sy.Take.here | apply Sy.Take.there)) (by rfl) | apply Sy.ResV.one rfl rfl rfl (by repeat (first | exact Sy.Take.here | apply Sy.Take.there)) (by rfl))) ?_)
  exact F.retV _
def mbadS (d : MarkD) : Bool := decide ((d.source : Int) ≥ 16) || (((d.inc : Int) == 0) || ((d.cell : Int) == 0))

set_option maxRecDepth 20000 in
set_option maxHeartbeats 2000000 in
theorem marks1_any (w : World) (d : MarkD) {r0 : Bool} (hres : mbadS d = r0) : Calls Try.prog 128 #[.agg #[.int .u8 (d.source : Int), .int .u64 (d.inc : Int), .int .u64 (d.cell : Int)]] w (RetV w (.bool r0)) := by
  have F := Sy.Mem.start (Sub.refl w)
  subst hres
  rcases or3 (decide ((d.source : Int) ≥ 16)) ((d.inc : Int) == 0) ((d.cell : Int) == 0) with t1 | ⟨t1, t2⟩ | ⟨t1, t2, t3⟩ | ⟨t1, t2, t3⟩
  all_goals
    refine Sy.enter Try.func128 rfl Try.ntmps128 rfl ?_; intro ac T; simp only [Sy.enum, Nat.zero_add, Nat.reduceAdd] at T
    repeat (first
    | (((with_reducible refine Sy.is_guard ?_); (first
    | refine Sy.st_guard T (h := ?_)
    | (refine Sy.st_unguard T (h := ?_); clear T; intro ac T))))
    | (((with_reducible refine Sy.is_load ?_); (refine Sy.st_loadOne T F (h := ?_)); clear T; intro ac T))
    | (((with_reducible refine Sy.is_box ?_); (refine Sy.st_boxAgg T F (h := ?_)); clear T F; intro ac g w T F))
    | (((with_reducible refine Sy.is_op ?_); refine Sy.st_pure T (h := ?_); clear T; intro ac T))
    | (with_reducible refine wpList_nil ?_)
    | (with_reducible refine wp_region_lit ?_)
    | (with_reducible refine wp_ret ?_)
    | ((with_reducible refine wp_seq_k ?_); intro _ _)
    | (go_at_K; go_step)
    | (simp only [Exit.then, Exit.inBlock, ↓reduceIte, Nat.reduceEqDiff]))
    ((try simp only [Exit.inBlock, Exit.then]); refine Sy.st_ret1 T F rfl (by repeat (first | exact Sy.ResV.nil | apply Sy.ResV.tmp rfl | apply Sy.ResV.row rfl rfl rfl (by repeat (first | exact Sy.Take.here | apply Sy.Take.there)) (by rfl) | apply Sy.ResV.one rfl rfl rfl (by repeat (first | exact Sy.Take.here | apply Sy.Take.there)) (by rfl))) ?_)
    exact retBb F (by first | (unfold mbadS; rw [t1, t2, t3]; rfl) | (unfold mbadS; rw [t1, t2]; rfl) | (unfold mbadS; rw [t1]; rfl))
def cbadS (last : Nat) (d : CellD) : Bool := decide ((d.n : Int) > (last : Int)) || (decide ((d.target : Int) ≥ 16) || !inS d.action 32)

set_option maxRecDepth 20000 in
set_option maxHeartbeats 2000000 in
theorem cells1_any (w : World) (last : Nat) (d : CellD) (g : Nat) (hg : w.cell? ⟨g, 0, none⟩ = some (.int .u64 (last : Int))) {r0 : Bool} (hres : cbadS last d = r0) : Calls Try.prog 124 #[.agg #[.int .u64 (d.n : Int), .int .u8 (d.target : Int), .int .i64 d.action, .int .i64 d.arg], .pointer (some ⟨g, 0, none⟩)] w (RetV w (.bool r0)) := by
  have F := Sy.Mem.start (Sub.refl w)
  subst hres
  rcases or3 (decide ((d.n : Int) > (last : Int))) (decide ((d.target : Int) ≥ 16)) (!inS d.action 32) with t1 | ⟨t1, t2⟩ | ⟨t1, t2, t3⟩ | ⟨t1, t2, t3⟩
  all_goals
    refine Sy.enter Try.func124 rfl Try.ntmps124 rfl ?_; intro ac T; simp only [Sy.enum, Nat.zero_add, Nat.reduceAdd] at T
    repeat (first
    | (((with_reducible refine Sy.is_guard ?_); (first
    | refine Sy.st_guard T (h := ?_)
    | (refine Sy.st_unguard T (h := ?_); clear T; intro ac T))))
    | (((with_reducible refine Sy.is_load ?_); (first
    | refine Sy.st_loadOne T F (h := ?_)
    | refine Sy.st_oldOne T F (h := ?_)); clear T; intro ac T))
    | (((with_reducible refine Sy.is_box ?_); (refine Sy.st_boxAgg T F (h := ?_)); clear T F; intro ac g w T F))
    | (((with_reducible refine Sy.is_op ?_); refine Sy.st_pure T (h := ?_); clear T; intro ac T))
    | (with_reducible refine wpList_nil ?_)
    | (with_reducible refine wp_region_lit ?_)
    | (with_reducible refine wp_ret ?_)
    | ((with_reducible refine wp_seq_k ?_); intro _ _)
    | (go_at_K; go_step)
    | (simp only [Exit.then, Exit.inBlock, ↓reduceIte, Nat.reduceEqDiff]))
    try (have u3 : inS d.action 32 = true := by (revert t3; cases inS d.action 32 <;> simp)
         refine Sy.st_callV0 T F (hc := in_any _ _ _ u3) (h := ?_); (clear T F; intro ac w T F))
    try (have u3 : inS d.action 32 = false := by (revert t3; cases inS d.action 32 <;> simp)
         refine Sy.st_callV0 T F (hc := in_any _ _ _ u3) (h := ?_); (clear T F; intro ac w T F))
    repeat (first
    | (((with_reducible refine Sy.is_guard ?_); (refine Sy.st_guard T (h := ?_))))
    | (((with_reducible refine Sy.is_op ?_); refine Sy.st_pure T (h := ?_); clear T; intro ac T))
    | (with_reducible refine wpList_nil ?_)
    | (with_reducible refine wp_ret ?_)
    | (go_at_K; go_step)
    | (simp only [Exit.then, Exit.inBlock, ↓reduceIte, Nat.reduceEqDiff]))
    ((try simp only [Exit.inBlock, Exit.then]); refine Sy.st_ret1 T F rfl (by repeat (first | exact Sy.ResV.nil | apply Sy.ResV.tmp rfl | apply Sy.ResV.row rfl rfl rfl (by repeat (first | exact Sy.Take.here | apply Sy.Take.there)) (by rfl) | apply Sy.ResV.one rfl rfl rfl (by repeat (first | exact Sy.Take.here | apply Sy.Take.there)) (by rfl))) ?_)
    exact retBb F (by first | (unfold cbadS; rw [t1, t2, t3]; rfl) | (unfold cbadS; rw [t1, t2]; rfl) | (unfold cbadS; rw [t1]; rfl))

theorem clos_dbad {w : World} {l : List DoneD} : ClosB DoneR w 119 [] l dbadS := fun w' m _ _ d _ cs hr => by
  obtain ⟨p, rfl, _⟩ := hr
  exact dones1_any w' d p rfl
theorem clos_dnum {w : World} {l : List DoneD} : ClosN DoneR w 122 [] l (·.client) := fun w' m _ _ d _ cs hr => by
  obtain ⟨p, rfl, h8, _⟩ := hr
  exact dones2_any w' d p h8
theorem clos_cbad {w : World} {l : List CellD} {last g : Nat} (hg : w.cell? ⟨g, 0, none⟩ = some (.int .u64 (last : Int))) : ClosB CellR w 124 [.pointer (some ⟨g, 0, none⟩)] l (cbadS last) := fun w' m h1 h2 d _ cs hr => by
  obtain ⟨rfl, _⟩ := hr
  exact cells1_any w' last d g (h2 _ _ (h1 _ _ hg)) rfl
theorem clos_cnum {w : World} {l : List CellD} : ClosN CellR w 126 [] l (·.n) := fun w' m _ _ d _ cs hr => by
  obtain ⟨rfl, _⟩ := hr
  exact cells2_any w' d
theorem clos_mbad {w : World} {l : List MarkD} : ClosB MarkR w 128 [] l mbadS := fun w' m _ _ d _ cs hr => by
  obtain ⟨rfl, _⟩ := hr
  exact marks1_any w' d rfl
theorem clos_mnum {w : World} {l : List MarkD} : ClosN MarkR w 130 [] l (·.source) := fun w' m _ _ d _ cs hr => by
  obtain ⟨rfl, h8, _⟩ := hr
  exact marks2_any w' d h8
def donesS (l : List DoneD) : Bool := !(l.any dbadS) && (decide ((l.length : Int) ≤ 8) && risesS (·.client) l 1)
def cellsS (l : List CellD) (last : Nat) : Bool := !(l.any (cbadS last)) && (decide ((l.length : Int) ≤ 8) && risesS (·.n) l 1)
def marksS (l : List MarkD) : Bool := !(l.any mbadS) && risesS (·.source) l 0

set_option maxRecDepth 20000 in
set_option maxHeartbeats 2000000 in
theorem dones_any (w : World) {a : Option Addr} {cap : Nat} {l : List DoneD} (h : Dones w a l) {r0 : Bool} (hres : donesS l = r0) : Calls Try.prog 95 #[.slice a l.length cap] w (RetV w (.bool r0)) := by
  have F := Sy.Mem.start (Sub.refl w)
  subst hres
  rcases and3 (!(l.any dbadS)) (decide ((l.length : Int) ≤ 8)) (risesS (·.client) l 1) with t1 | ⟨t1, t2⟩ | ⟨t1, t2, t3⟩ | ⟨t1, t2, t3⟩
  all_goals
    refine Sy.enter Try.func95 rfl Try.ntmps95 rfl ?_; intro ac T; simp only [Sy.enum, Nat.zero_add, Nat.reduceAdd] at T
    repeat (first
    | (((with_reducible refine Sy.is_op ?_); refine Sy.st_pure T (h := ?_); clear T; intro ac T))
    | (with_reducible refine wpList_nil ?_)
    | (with_reducible refine wp_region_lit ?_)
    | ((with_reducible refine wp_seq_k ?_); intro _ _)
    | (go_at_K; go_step)
    | (simp only [Exit.then, Exit.inBlock, ↓reduceIte, Nat.reduceEqDiff]))
    try (have u1 := not_f t1
         skip
         have G := containsDone w (h.sub F.sub) rfl (clos_dbad) (cap := cap)
         rw [u1] at G
         refine Sy.st_callV0 T F (hc := G) (h := ?_); (clear T F; intro ac w T F); clear G)
    try (have u1 := not_t t1
         skip
         have G := containsDone w (h.sub F.sub) rfl (clos_dbad) (cap := cap)
         rw [u1] at G
         refine Sy.st_callV0 T F (hc := G) (h := ?_); (clear T F; intro ac w T F); clear G)
    repeat (first
    | (((with_reducible refine Sy.is_guard ?_); (first
    | refine Sy.st_guard T (h := ?_)
    | (refine Sy.st_unguard T (h := ?_); clear T; intro ac T))))
    | (((with_reducible refine Sy.is_op ?_); refine Sy.st_pure T (h := ?_); clear T; intro ac T))
    | (with_reducible refine wpList_nil ?_)
    | (with_reducible refine wp_region_lit ?_)
    | (with_reducible refine wp_ret ?_)
    | ((with_reducible refine wp_seq_k ?_); intro _ _)
    | (go_at_K; go_step)
    | (simp only [Exit.then, Exit.inBlock, ↓reduceIte, Nat.reduceEqDiff]))
    try (have G := risesDone w (h.sub F.sub) rfl clos_dnum 1 (cap := cap)
         rw [t3] at G
         refine Sy.st_callV0 T F (hc := G) (h := ?_); (clear T F; intro ac w T F); clear G)
    repeat (first
    | (((with_reducible refine Sy.is_op ?_); refine Sy.st_pure T (h := ?_); clear T; intro ac T))
    | (with_reducible refine wpList_nil ?_)
    | (with_reducible refine wp_ret ?_)
    | (go_at_K; go_step)
    | (simp only [Exit.then, Exit.inBlock, ↓reduceIte, Nat.reduceEqDiff]))
    ((try simp only [Exit.inBlock, Exit.then]); refine Sy.st_ret1 T F rfl (by repeat (first | exact Sy.ResV.nil | apply Sy.ResV.tmp rfl | apply Sy.ResV.row rfl rfl rfl (by repeat (first | exact Sy.Take.here | apply Sy.Take.there)) (by rfl) | apply Sy.ResV.one rfl rfl rfl (by repeat (first | exact Sy.Take.here | apply Sy.Take.there)) (by rfl))) ?_)
    exact retBb F (by first | (unfold donesS; rw [t1, t2, t3]; rfl) | (unfold donesS; rw [t1, t2]; rfl) | (unfold donesS; rw [t1]; rfl))

set_option maxRecDepth 20000 in
set_option maxHeartbeats 2000000 in
theorem cells_any (w : World) {a : Option Addr} {cap : Nat} {l : List CellD} (h : Cels w a l) (last : Nat) {r0 : Bool} (hres : cellsS l last = r0) : Calls Try.prog 96 #[.slice a l.length cap, .int .u64 (last : Int)] w (RetV w (.bool r0)) := by
  have F := Sy.Mem.start (Sub.refl w)
  subst hres
  rcases and3 (!(l.any (cbadS last))) (decide ((l.length : Int) ≤ 8)) (risesS (·.n) l 1) with t1 | ⟨t1, t2⟩ | ⟨t1, t2, t3⟩ | ⟨t1, t2, t3⟩
  all_goals
    refine Sy.enter Try.func96 rfl Try.ntmps96 rfl ?_; intro ac T; simp only [Sy.enum, Nat.zero_add, Nat.reduceAdd] at T
    repeat (first
    | (((with_reducible refine Sy.is_box ?_); (refine Sy.st_boxOne T F (h := ?_)); clear T F; intro ac g w T F))
    | (((with_reducible refine Sy.is_op ?_); refine Sy.st_pure T (h := ?_); clear T; intro ac T))
    | (with_reducible refine wpList_nil ?_)
    | (with_reducible refine wp_region_lit ?_)
    | ((with_reducible refine wp_seq_k ?_); intro _ _)
    | (go_at_K; go_step)
    | (simp only [Exit.then, Exit.inBlock, ↓reduceIte, Nat.reduceEqDiff]))
    try (have u1 := not_f t1
         have hgc := Sy.cell_own (F.get Sy.Take.here)
         have G := containsCell w (h.sub F.sub) rfl (clos_cbad hgc) (cap := cap)
         rw [u1] at G
         refine Sy.st_callV0 T F (hc := G) (h := ?_); (clear T F; intro ac w T F); clear G)
    try (have u1 := not_t t1
         have hgc := Sy.cell_own (F.get Sy.Take.here)
         have G := containsCell w (h.sub F.sub) rfl (clos_cbad hgc) (cap := cap)
         rw [u1] at G
         refine Sy.st_callV0 T F (hc := G) (h := ?_); (clear T F; intro ac w T F); clear G)
    repeat (first
    | (((with_reducible refine Sy.is_guard ?_); (first
    | refine Sy.st_guard T (h := ?_)
    | (refine Sy.st_unguard T (h := ?_); clear T; intro ac T))))
    | (((with_reducible refine Sy.is_op ?_); refine Sy.st_pure T (h := ?_); clear T; intro ac T))
    | (with_reducible refine wpList_nil ?_)
    | (with_reducible refine wp_region_lit ?_)
    | (with_reducible refine wp_ret ?_)
    | ((with_reducible refine wp_seq_k ?_); intro _ _)
    | (go_at_K; go_step)
    | (simp only [Exit.then, Exit.inBlock, ↓reduceIte, Nat.reduceEqDiff]))
    try (have G := risesCell w (h.sub F.sub) rfl clos_cnum 1 (cap := cap)
         rw [t3] at G
         refine Sy.st_callV0 T F (hc := G) (h := ?_); (clear T F; intro ac w T F); clear G)
    repeat (first
    | (((with_reducible refine Sy.is_op ?_); refine Sy.st_pure T (h := ?_); clear T; intro ac T))
    | (with_reducible refine wpList_nil ?_)
    | (with_reducible refine wp_ret ?_)
    | (go_at_K; go_step)
    | (simp only [Exit.then, Exit.inBlock, ↓reduceIte, Nat.reduceEqDiff]))
    ((try simp only [Exit.inBlock, Exit.then]); refine Sy.st_ret1 T F rfl (by repeat (first | exact Sy.ResV.nil | apply Sy.ResV.tmp rfl | apply Sy.ResV.row rfl rfl rfl (by repeat (first | exact Sy.Take.here | apply Sy.Take.there)) (by rfl) | apply Sy.ResV.one rfl rfl rfl (by repeat (first | exact Sy.Take.here | apply Sy.Take.there)) (by rfl))) ?_)
    exact retBb F (by first | (unfold cellsS; rw [t1, t2, t3]; rfl) | (unfold cellsS; rw [t1, t2]; rfl) | (unfold cellsS; rw [t1]; rfl))

set_option maxRecDepth 20000 in
set_option maxHeartbeats 2000000 in
theorem marks_any (w : World) {a : Option Addr} {cap : Nat} {l : List MarkD} (h : Marks w a l) {r0 : Bool} (hres : marksS l = r0) : Calls Try.prog 97 #[.slice a l.length cap] w (RetV w (.bool r0)) := by
  have F := Sy.Mem.start (Sub.refl w)
  subst hres
  rcases and2 (!(l.any mbadS)) (risesS (·.source) l 0) with t1 | ⟨t1, t2⟩ | ⟨t1, t2⟩
  all_goals
    refine Sy.enter Try.func97 rfl Try.ntmps97 rfl ?_; intro ac T; simp only [Sy.enum, Nat.zero_add, Nat.reduceAdd] at T
    repeat (first
    | (((with_reducible refine Sy.is_op ?_); refine Sy.st_pure T (h := ?_); clear T; intro ac T))
    | (with_reducible refine wpList_nil ?_)
    | (with_reducible refine wp_region_lit ?_)
    | ((with_reducible refine wp_seq_k ?_); intro _ _)
    | (go_at_K; go_step)
    | (simp only [Exit.then, Exit.inBlock, ↓reduceIte, Nat.reduceEqDiff]))
    try (have u1 := not_f t1
         skip
         have G := containsMark w (h.sub F.sub) rfl (clos_mbad) (cap := cap)
         rw [u1] at G
         refine Sy.st_callV0 T F (hc := G) (h := ?_); (clear T F; intro ac w T F); clear G)
    try (have u1 := not_t t1
         skip
         have G := containsMark w (h.sub F.sub) rfl (clos_mbad) (cap := cap)
         rw [u1] at G
         refine Sy.st_callV0 T F (hc := G) (h := ?_); (clear T F; intro ac w T F); clear G)
    repeat (first
    | (((with_reducible refine Sy.is_guard ?_); (first
    | refine Sy.st_guard T (h := ?_)
    | (refine Sy.st_unguard T (h := ?_); clear T; intro ac T))))
    | (((with_reducible refine Sy.is_op ?_); refine Sy.st_pure T (h := ?_); clear T; intro ac T))
    | (with_reducible refine wpList_nil ?_)
    | (with_reducible refine wp_region_lit ?_)
    | (with_reducible refine wp_ret ?_)
    | ((with_reducible refine wp_seq_k ?_); intro _ _)
    | (go_at_K; go_step)
    | (simp only [Exit.then, Exit.inBlock, ↓reduceIte, Nat.reduceEqDiff]))
    try (have G := risesMark w (h.sub F.sub) rfl clos_mnum 0 (cap := cap)
         rw [t2] at G
         refine Sy.st_callV0 T F (hc := G) (h := ?_); (clear T F; intro ac w T F); clear G)
    repeat (first
    | (((with_reducible refine Sy.is_op ?_); refine Sy.st_pure T (h := ?_); clear T; intro ac T))
    | (with_reducible refine wpList_nil ?_)
    | (with_reducible refine wp_ret ?_)
    | (go_at_K; go_step)
    | (simp only [Exit.then, Exit.inBlock, ↓reduceIte, Nat.reduceEqDiff]))
    ((try simp only [Exit.inBlock, Exit.then]); refine Sy.st_ret1 T F rfl (by repeat (first | exact Sy.ResV.nil | apply Sy.ResV.tmp rfl | apply Sy.ResV.row rfl rfl rfl (by repeat (first | exact Sy.Take.here | apply Sy.Take.there)) (by rfl) | apply Sy.ResV.one rfl rfl rfl (by repeat (first | exact Sy.Take.here | apply Sy.Take.there)) (by rfl))) ?_)
    exact retBb F (by first | (unfold marksS; rw [t1, t2]; rfl) | (unfold marksS; rw [t1]; rfl))
end Rg
end Go.Proofs.Ytniopkoaplkpkaa
