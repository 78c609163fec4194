/- Find of the code. Conditions: the contract and the variables can be read. -/
import Derived.Test.YtdpmfjbhadapiaaTbO
import Derived.Test.YtdpmfjbhadapiaaSyD
namespace Go.Proofs.Ytdpmfjbhadapiaa
open Go.RowKit
set_option linter.unusedVariables false
set_option linter.unusedSimpArgs false
namespace Tb
open Sy (RetV RetM Sub)
open Rg (and2 and3 and4 and5 and6 and7 and8 and9 or2 or3 or4 or5 or6 or7 retBb not_t not_f eqT eqF i64_up i64_wrap ClosB any_up any_hit idxS idx_some idx_none)
def hitR (state action party : Int) (vars : List Int) (arg : Int) (r : RuleD) : Bool := (r.src == state) && ((r.action == action) && ((r.party == party) && Ex.holdsS r.guard vars arg))
def goodS (t : TabD) (vars : List Int) : Bool := mayS t && ((vars.length : Int) == t.vars)
def findS (t : TabD) (state action party : Int) (vars : List Int) (arg : Int) : Int := if goodS t vars then idxS (hitR state action party vars arg) t.rules else -1
def OkA (arg : Int) : Prop := Ex.least ≤ arg ∧ arg ≤ Ex.most
theorem exHolds (w : World) {a : Option Addr} {n cap : Nat} {l : List Ex.Tok} {av : Option Addr} {nv cv : Nat} {vars : List Int} {arg : Int} (hl : Ex.Toks w a n l) (hv : Ex.Ints w av nv vars) (ha : OkA arg) {b : Bool} (hb : Ex.holdsS l vars arg = b) : Calls Try.prog 43 #[.slice a n cap, .slice av nv cv, .int .i64 arg] w (RetV w (.bool b)) := by
  rw [← hb]; exact Ex.holds_any a n cap l av nv cv vars arg w hl hv ha

set_option maxRecDepth 20000 in
set_option maxHeartbeats 1000000 in
theorem find1_any (w : World) (r : RuleD) {cs : List Value} (hr : RuleR w cs r) (state action party : Int) {va : Option Addr} {vc : Nat} {vars : List Int} (arg : Int) (hv : Ex.Ints w va vars.length vars) (ha : OkA arg) (g1 g2 g3 g4 g5 : Nat)
    (h1 : w.cell? ⟨g1, 0, none⟩ = some (.int .i64 state)) (h2 : w.cell? ⟨g2, 0, none⟩ = some (.int .i64 action)) (h3 : w.cell? ⟨g3, 0, none⟩ = some (.int .i64 party)) (h4 : w.cell? ⟨g4, 0, none⟩ = some (.slice va vars.length vc)) (h5 : w.cell? ⟨g5, 0, none⟩ = some (.int .i64 arg)) :
    Calls Try.prog 42 #[.agg cs.toArray, .pointer (some ⟨g1, 0, none⟩), .pointer (some ⟨g2, 0, none⟩), .pointer (some ⟨g3, 0, none⟩), .pointer (some ⟨g4, 0, none⟩), .pointer (some ⟨g5, 0, none⟩)] w (RetV w (.bool (hitR state action party vars arg r))) := by
  obtain ⟨p, rfl, h⟩ := hr
  have F := Sy.Mem.start (Sub.refl w)
  have hg := h.guard
  rcases and4 (r.src == state) (r.action == action) (r.party == party) (Ex.holdsS r.guard vars arg) with t1 | ⟨t1, t2⟩ | ⟨t1, t2, t3⟩ | ⟨t1, t2, t3, t4⟩ | ⟨t1, t2, t3, t4⟩
  all_goals
    refine Sy.enter Try.func42 rfl Try.ntmps42 rfl ?_; intro ac T; simp only [Sy.enum, Nat.zero_add, Nat.reduceAdd] at T
    repeat (first
    | (((with_reducible refine Sy.is_guard ?_); (first
    | refine Sy.st_guard T (h := ?_)
    | (refine Sy.st_unguard T (h := ?_); clear T; intro ac T))))
    | (((with_reducible refine Sy.is_load ?_); (first
    | refine Sy.st_loadOne T F (h := ?_)
    | refine Sy.st_oldOne T F (h := ?_)); clear T; intro ac T))
    | (((with_reducible refine Sy.is_box ?_); (refine Sy.st_boxAgg T F (h := ?_)); clear T F; intro ac g w T F))
    | (((with_reducible refine Sy.is_op ?_); refine Sy.st_pure T (h := ?_); clear T; intro ac T))
    | (with_reducible refine wpList_nil ?_)
    | (with_reducible refine wp_region_lit ?_)
    | (with_reducible refine wp_ret ?_)
    | ((with_reducible refine wp_seq_k ?_); intro _ _)
    | (go_at_K; go_step)
    | (simp only [Exit.then, Exit.inBlock, ↓reduceIte, Nat.reduceEqDiff]))
    try (refine Sy.st_callV0 T F (hc := exHolds _ (hg.sub F.sub) (hv.sub F.sub) ha t4) (h := ?_); (clear T F; intro ac w T F))
    repeat (first
    | (((with_reducible refine Sy.is_op ?_); refine Sy.st_pure T (h := ?_); clear T; intro ac T))
    | (with_reducible refine wpList_nil ?_)
    | (with_reducible refine wp_ret ?_)
    | (go_at_K; go_step)
    | (simp only [Exit.then, Exit.inBlock, ↓reduceIte, Nat.reduceEqDiff]))
    ((try simp only [Exit.inBlock, Exit.then]); refine Sy.st_ret1 T F rfl (by repeat (first | exact Sy.ResV.nil | apply Sy.ResV.tmp rfl | apply Sy.ResV.row rfl rfl rfl (by repeat (first | exact Sy.Take.here | apply Sy.Take.there)) (by rfl) | apply Sy.ResV.one rfl rfl rfl (by repeat (first | exact Sy.Take.here | apply Sy.Take.there)) (by rfl))) ?_)
    exact retBb F (by first | (unfold hitR; rw [t1, t2, t3, t4]; rfl) | (unfold hitR; rw [t1, t2, t3]; rfl) | (unfold hitR; rw [t1, t2]; rfl) | (unfold hitR; rw [t1]; rfl))
theorem clos_hit {w : World} {l : List RuleD} {state action party : Int} {va : Option Addr} {vc : Nat} {vars : List Int} {arg : Int} (hv : Ex.Ints w va vars.length vars) (ha : OkA arg) {g1 g2 g3 g4 g5 : Nat}
    (h1 : w.cell? ⟨g1, 0, none⟩ = some (.int .i64 state)) (h2 : w.cell? ⟨g2, 0, none⟩ = some (.int .i64 action)) (h3 : w.cell? ⟨g3, 0, none⟩ = some (.int .i64 party)) (h4 : w.cell? ⟨g4, 0, none⟩ = some (.slice va vars.length vc)) (h5 : w.cell? ⟨g5, 0, none⟩ = some (.int .i64 arg)) :
    ClosB RuleR w 42 [.pointer (some ⟨g1, 0, none⟩), .pointer (some ⟨g2, 0, none⟩), .pointer (some ⟨g3, 0, none⟩), .pointer (some ⟨g4, 0, none⟩), .pointer (some ⟨g5, 0, none⟩)] l (hitR state action party vars arg) := fun w' m s1 s2 d _ cs hr =>
  have s := s1.trans s2
  find1_any w' d (hr.sub s2) state action party arg (hv.sub s) ha g1 g2 g3 g4 g5 (s _ _ h1) (s _ _ h2) (s _ _ h3) (s _ _ h4) (s _ _ h5)
set_option maxRecDepth 20000 in
set_option maxHeartbeats 1000000 in
theorem find_any (w0 : World) (t : TabD) (ta : Option Addr) (tc : Nat) (h : TabAt w0 t ta tc) (state action party : Int) {va : Option Addr} {vc : Nat} {vars : List Int} (arg : Int) (hv : Ex.Ints w0 va vars.length vars) (ha : OkA arg) :
    Calls Try.prog 19 #[.agg (tabCs t ta tc).toArray, .int .i64 state, .int .i64 action, .int .i64 party, .slice va vars.length vc, .int .i64 arg] w0 (RetV w0 (.int .i64 (findS t state action party vars arg))) := by
  have F := Sy.Mem.start (Sub.refl w0)
  have hml := hv.2.1
  rcases and2 (mayS t) ((vars.length : Int) == t.vars) with t1 | ⟨t1, t2⟩ | ⟨t1, t2⟩
  case inr.inr =>
    refine Sy.enter Try.func19 rfl Try.ntmps19 rfl ?_; intro ac T; simp only [Sy.enum, Nat.zero_add, Nat.reduceAdd] at T
    repeat (first
    | (((with_reducible refine Sy.is_load ?_); (refine Sy.st_loadAll T F (h := ?_)); clear T; intro ac T))
    | (((with_reducible refine Sy.is_box ?_); (first
    | refine Sy.st_boxAgg T F (h := ?_)
    | refine Sy.st_boxOne T F (h := ?_)); clear T F; intro ac g w T F))
    | (((with_reducible refine Sy.is_op ?_); refine Sy.st_pure T (h := ?_); clear T; intro ac T))
    | (with_reducible refine wpList_nil ?_)
    | (with_reducible refine wp_region_lit ?_)
    | ((with_reducible refine wp_seq_k ?_); intro _ _)
    | (go_at_K; go_step)
    | (simp only [Exit.then, Exit.inBlock, ↓reduceIte, Nat.reduceEqDiff]))
    refine Sy.st_callV0 T F (hc := mayM F.sub h t1) (h := ?_); (clear T F; intro ac w T F)
    repeat (first
    | (((with_reducible refine Sy.is_guard ?_); (refine Sy.st_guard T (h := ?_))))
    | (((with_reducible refine Sy.is_load ?_); (refine Sy.st_loadOne T F (h := ?_)); clear T; intro ac T))
    | (((with_reducible refine Sy.is_op ?_); refine Sy.st_pure T (h := ?_); clear T; intro ac T))
    | ((with_reducible refine Sy.is_cond ?_); (refine Sy.st_false T (h := ?_)))
    | (with_reducible refine wpList_nil ?_)
    | (with_reducible refine wp_region_lit ?_)
    | (with_reducible refine wp_skip ?_)
    | ((with_reducible refine wp_seq_k ?_); intro _ _)
    | (go_at_K; go_step)
    | (simp only [Exit.then, Exit.inBlock, ↓reduceIte, Nat.reduceEqDiff]))
    have c5 := Sy.cell_ownI (F.get Sy.Take.here) 0 rfl
    have c4 := Sy.cell_ownI (F.get (Sy.Take.there Sy.Take.here)) 0 rfl
    have c3 := Sy.cell_ownI (F.get (Sy.Take.there (Sy.Take.there Sy.Take.here))) 0 rfl
    have c2 := Sy.cell_ownI (F.get (Sy.Take.there (Sy.Take.there (Sy.Take.there Sy.Take.here)))) 0 rfl
    have c1 := Sy.cell_ownI (F.get (Sy.Take.there (Sy.Take.there (Sy.Take.there (Sy.Take.there Sy.Take.here))))) 0 rfl
    have G := indexRule w (rows_sub (fun _ _ h => h.sub F.sub) F.sub h.rules) rfl (clos_hit (hv.sub F.sub) ha c1 c2 c3 c4 c5) (cap := tc)
    refine Sy.st_callV0 T F (hc := G) (h := ?_); (clear T F; intro ac w T F)
    repeat (first
    | (((with_reducible refine Sy.is_op ?_); refine Sy.st_pure T (h := ?_); clear T; intro ac T))
    | (with_reducible refine wpList_nil ?_)
    | (with_reducible refine wp_ret ?_)
    | (go_at_K; go_step)
    | (simp only [Exit.then, Exit.inBlock, ↓reduceIte, Nat.reduceEqDiff]))
    ((try simp only [Exit.inBlock, Exit.then]); refine Sy.st_ret1 T F rfl (by repeat (first | exact Sy.ResV.nil | apply Sy.ResV.tmp rfl | apply Sy.ResV.row rfl rfl rfl (by repeat (first | exact Sy.Take.here | apply Sy.Take.there)) (by rfl) | apply Sy.ResV.one rfl rfl rfl (by repeat (first | exact Sy.Take.here | apply Sy.Take.there)) (by rfl))) ?_)
    have hfin : findS t state action party vars arg = idxS (hitR state action party vars arg) t.rules := by unfold findS goodS; rw [t1, t2]; rfl
    rw [hfin]
    exact F.retV _
  all_goals
    refine Sy.enter Try.func19 rfl Try.ntmps19 rfl ?_; intro ac T; simp only [Sy.enum, Nat.zero_add, Nat.reduceAdd] at T
    repeat (first
    | (((with_reducible refine Sy.is_load ?_); (refine Sy.st_loadAll T F (h := ?_)); clear T; intro ac T))
    | (((with_reducible refine Sy.is_box ?_); (first
    | refine Sy.st_boxAgg T F (h := ?_)
    | refine Sy.st_boxOne T F (h := ?_)); clear T F; intro ac g w T F))
    | (((with_reducible refine Sy.is_op ?_); refine Sy.st_pure T (h := ?_); clear T; intro ac T))
    | (with_reducible refine wpList_nil ?_)
    | (with_reducible refine wp_region_lit ?_)
    | ((with_reducible refine wp_seq_k ?_); intro _ _)
    | (go_at_K; go_step)
    | (simp only [Exit.then, Exit.inBlock, ↓reduceIte, Nat.reduceEqDiff]))
    refine Sy.st_callV0 T F (hc := mayM F.sub h t1) (h := ?_); (clear T F; intro ac w T F)
    repeat (first
    | (((with_reducible refine Sy.is_guard ?_); (first
    | refine Sy.st_guard T (h := ?_)
    | (refine Sy.st_unguard T (h := ?_); clear T; intro ac T))))
    | (((with_reducible refine Sy.is_load ?_); (refine Sy.st_loadOne T F (h := ?_)); clear T; intro ac T))
    | (((with_reducible refine Sy.is_op ?_); refine Sy.st_pure T (h := ?_); clear T; intro ac T))
    | ((with_reducible refine Sy.is_cond ?_); (refine Sy.st_true T (h := ?_)))
    | (with_reducible refine wpList_nil ?_)
    | (with_reducible refine wp_region_lit ?_)
    | (with_reducible refine wp_ret ?_)
    | ((with_reducible refine wp_seq_k ?_); intro _ _)
    | (go_at_K; go_step)
    | (simp only [Exit.then, Exit.inBlock, ↓reduceIte, Nat.reduceEqDiff]))
    ((try simp only [Exit.inBlock, Exit.then]); refine Sy.st_ret1 T F rfl (by repeat (first | exact Sy.ResV.nil | apply Sy.ResV.tmp rfl | apply Sy.ResV.row rfl rfl rfl (by repeat (first | exact Sy.Take.here | apply Sy.Take.there)) (by rfl) | apply Sy.ResV.one rfl rfl rfl (by repeat (first | exact Sy.Take.here | apply Sy.Take.there)) (by rfl))) ?_)
    have hfin : findS t state action party vars arg = -1 := by unfold findS goodS; first | (rw [t1, t2]; rfl) | (rw [t1]; rfl)
    rw [hfin]
    exact F.retV _

end Tb
end Go.Proofs.Ytdpmfjbhadapiaa
