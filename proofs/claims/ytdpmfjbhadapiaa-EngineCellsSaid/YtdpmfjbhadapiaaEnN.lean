/- The walk of engine.does. Conditions: the register is the caller's to write, its lists are short, its marks rise. What reg.Clone hands back, taken as lists of the call's own. No condition. -/
import Derived.Test.YtdpmfjbhadapiaaEnM
import Derived.Test.YtdpmfjbhadapiaaEnH
import Derived.Test.YtdpmfjbhadapiaaCloE
namespace Go.Proofs.Ytdpmfjbhadapiaa
open Go.RowKit
set_option linter.unusedVariables false
set_option linter.unusedSimpArgs false
namespace En
open Sy (RetV RetM Sub RetE RetO)
open Rg (RowsOf eqT eqF i64_up i64_wrap U8 U64 I64 RegD RegA RegAt regCs DoneD DoneR MarkD MarkR CellD CellR OpD opCs ClosB)
open Tb (TabD TabAt tabCs fireS FireD OkA)
theorem nameP {a : Act} {n : Nat} {ts : List (Nat × Value)} (T : Sy.Tm a n ts) (k : Nat) {g : Nat} (h : Sy.getT ts k = some (.pointer (some ⟨g, 0, none⟩))) : ∃ x, x = g := ⟨_, rfl⟩
theorem rows_cells {m : World} {l : List CellD} (h : ∀ c ∈ l, CellR m (cellW c) c) : RowsOf CellR 4 m (l.map cellW) l := ⟨by simp, fun i h1 h2 => ⟨by rw [List.getElem_map]; rfl, by rw [List.getElem_map]; exact h _ (List.getElem_mem h2)⟩⟩
def cleared (r : RegD) (cell : Nat) : RegD := { r with out := r.out.filter fun c => !((c.n : Int) == (cell : Int)) }
/-- the register and the error behind does -/
def doesR (t : TabD) (r : RegD) (o : OpD) (count n : Nat) : RegD × Nat :=
  if o.kind = 7 then (r, 0) else if o.kind = 1 then createR r count n else if o.kind = 5 then consumeR t r o
  else if o.kind = 6 then (if r.kind = 1 ∧ r.inc = o.inc then cleared r o.cell else r, 0)
  else if r.kind ≠ 1 then (r, 11) else if o.kind = 2 then fireR t r o o.party else if o.kind = 4 then removeR r else (r, 0)
set_option maxRecDepth 20000 in
set_option maxHeartbeats 2000000 in
theorem does_same (W m : World) {g : Nat} {r : RegD} {q : RegA} {cd co cm : List (List Value)} (F : Sy.Handx (nowL r q cd co cm) m W g (regCs r q) 51) (h : NowAt m r q cd co cm) (hl : r.out.length ≤ 1000) (hm : (r.marks.map (·.source)).Pairwise (· < ·)) (hml : r.marks.length ≤ 1000) (t : TabD) (ta : Option Addr) (tc : Nat) (ht : TabAt m t ta tc) (o : OpD) (ho : OkA o.arg) (hx : o.source < 256) (hx1 : U64 o.inc) (hx2 : U64 o.cell) (count n : Nat) (hc : U64 count) (hv : t.vars = (n : Int)) (hn8 : n ≤ 8) (hk : o.kind = 7) :
    Calls Try.prog 51 #[.agg (tabCs t ta tc).toArray, .pointer (some ⟨g, 0, none⟩), .agg (opCs o).toArray, .int .u64 (count : Int)] W (RetE (nowL r q cd co cm) m W g 51 (NowE (.int .i64 (((r, 0) : RegD × Nat).2 : Int)) ((r, 0) : RegD × Nat).1)) := by
  obtain ⟨va, vc, da, dc, oa, oc, ma, mc⟩ := q
  have k7 := eqT (a := (o.kind : Int)) (b := 7) (by omega)
  refine Sy.enter Try.func51 rfl Try.ntmps51 rfl ?_; intro ac T; simp only [Sy.enum, Nat.zero_add, Nat.reduceAdd] at T
  repeat (first
    | (((with_reducible refine Sy.is_load ?_); (refine Sy.st_loadOne T F (h := ?_)); clear T; intro ac T))
    | (((with_reducible refine Sy.is_box ?_); (refine Sy.st_boxAgg T F (h := ?_)); clear T F; intro ac g w T F))
    | (((with_reducible refine Sy.is_op ?_); refine Sy.st_pure T (h := ?_); clear T; intro ac T))
    | ((with_reducible refine Sy.is_cond ?_); (refine Sy.st_true T (h := ?_)))
    | (with_reducible refine wpList_nil ?_)
    | (with_reducible refine wp_region_lit ?_)
    | (with_reducible refine wp_block ?_)
    | (with_reducible refine wp_ret ?_)
    | ((with_reducible refine wp_seq_k ?_); intro _ _)
    | (go_at_K; go_step)
    | (simp only [Exit.then, Exit.inBlock, ↓reduceIte, Nat.reduceEqDiff]))
  ((try simp only [Exit.inBlock, Exit.then]); refine Sy.st_ret1 T F rfl (by repeat (first | exact Sy.ResV.nil | apply Sy.ResV.tmp rfl | apply Sy.ResV.row rfl rfl rfl (by repeat (first | exact Sy.Take.here | apply Sy.Take.there)) (by rfl) | apply Sy.ResV.one rfl rfl rfl (by repeat (first | exact Sy.Take.here | apply Sy.Take.there)) (by rfl))) ?_)
  exact F.retE (by repeat (first | exact Sy.Take.here | apply Sy.Take.there)) ⟨rfl, ⟨va, vc, da, dc, oa, oc, ma, mc⟩, cd, co, cm, rfl, rfl, h⟩
set_option maxRecDepth 20000 in
set_option maxHeartbeats 2000000 in
theorem does_create (W m : World) {g : Nat} {r : RegD} {q : RegA} {cd co cm : List (List Value)} (F : Sy.Handx (nowL r q cd co cm) m W g (regCs r q) 51) (h : NowAt m r q cd co cm) (hl : r.out.length ≤ 1000) (hm : (r.marks.map (·.source)).Pairwise (· < ·)) (hml : r.marks.length ≤ 1000) (t : TabD) (ta : Option Addr) (tc : Nat) (ht : TabAt m t ta tc) (o : OpD) (ho : OkA o.arg) (hx : o.source < 256) (hx1 : U64 o.inc) (hx2 : U64 o.cell) (count n : Nat) (hc : U64 count) (hv : t.vars = (n : Int)) (hn8 : n ≤ 8) (hk : o.kind = 1) :
    Calls Try.prog 51 #[.agg (tabCs t ta tc).toArray, .pointer (some ⟨g, 0, none⟩), .agg (opCs o).toArray, .int .u64 (count : Int)] W (RetE (nowL r q cd co cm) m W g 51 (NowE (.int .i64 ((createR r count n).2 : Int)) (createR r count n).1)) := by
  obtain ⟨va, vc, da, dc, oa, oc, ma, mc⟩ := q
  have k7 := eqF (a := (o.kind : Int)) (b := 7) (by omega)
  have k1 := eqT (a := (o.kind : Int)) (b := 1) (by omega)
  refine Sy.enter Try.func51 rfl Try.ntmps51 rfl ?_; intro ac T; simp only [Sy.enum, Nat.zero_add, Nat.reduceAdd] at T
  repeat (first
    | (((with_reducible refine Sy.is_load ?_); (first
    | refine Sy.st_loadOne T F (h := ?_)
    | refine Sy.st_loadAll T F (h := ?_)); clear T; intro ac T))
    | (((with_reducible refine Sy.is_box ?_); (refine Sy.st_boxAgg T F (h := ?_)); clear T F; intro ac g w T F))
    | (((with_reducible refine Sy.is_op ?_); refine Sy.st_pure T (h := ?_); clear T; intro ac T))
    | ((with_reducible refine Sy.is_cond ?_); (first
    | refine Sy.st_true T (h := ?_)
    | refine Sy.st_false T (h := ?_)))
    | (with_reducible refine wpList_nil ?_)
    | (with_reducible refine wp_region_lit ?_)
    | (with_reducible refine wp_block ?_)
    | ((with_reducible refine wp_seq_k ?_); intro _ _)
    | (go_at_K; go_step)
    | (simp only [Exit.then, Exit.inBlock, ↓reduceIte, Nat.reduceEqDiff]))
  refine Sy.st_callE T F (L1 := []) (by rw [List.append_nil]) (by repeat (first | exact Sy.Take.here | apply Sy.Take.there)) (fun F' => create_any w m F' h t ta tc count n hc hv hn8) (h := ?_)
  clear T F; intro v m' cs' L' ac w hR hS T F
  generalize createR r count n = fr at *
  obtain ⟨rfl, ⟨va, vc, da, dc, oa, oc, ma, mc⟩, cd2, co2, cm2, rfl, rfl, h2⟩ := hR
  rw [List.append_nil] at F
  repeat (first
    | (((with_reducible refine Sy.is_op ?_); refine Sy.st_pure T (h := ?_); clear T; intro ac T))
    | (with_reducible refine wpList_nil ?_)
    | (with_reducible refine wp_ret ?_)
    | (go_at_K; go_step)
    | (simp only [Exit.then, Exit.inBlock, ↓reduceIte, Nat.reduceEqDiff]))
  ((try simp only [Exit.inBlock, Exit.then]); refine Sy.st_ret1 T F rfl (by repeat (first | exact Sy.ResV.nil | apply Sy.ResV.tmp rfl | apply Sy.ResV.row rfl rfl rfl (by repeat (first | exact Sy.Take.here | apply Sy.Take.there)) (by rfl) | apply Sy.ResV.one rfl rfl rfl (by repeat (first | exact Sy.Take.here | apply Sy.Take.there)) (by rfl))) ?_)
  exact F.retE (by repeat (first | exact Sy.Take.here | apply Sy.Take.there)) ⟨rfl, ⟨va, vc, da, dc, oa, oc, ma, mc⟩, cd2, co2, cm2, rfl, rfl, h2⟩
set_option maxRecDepth 20000 in
set_option maxHeartbeats 2000000 in
theorem does_consume (W m : World) {g : Nat} {r : RegD} {q : RegA} {cd co cm : List (List Value)} (F : Sy.Handx (nowL r q cd co cm) m W g (regCs r q) 51) (h : NowAt m r q cd co cm) (hl : r.out.length ≤ 1000) (hm : (r.marks.map (·.source)).Pairwise (· < ·)) (hml : r.marks.length ≤ 1000) (t : TabD) (ta : Option Addr) (tc : Nat) (ht : TabAt m t ta tc) (o : OpD) (ho : OkA o.arg) (hx : o.source < 256) (hx1 : U64 o.inc) (hx2 : U64 o.cell) (count n : Nat) (hc : U64 count) (hv : t.vars = (n : Int)) (hn8 : n ≤ 8) (hk : o.kind = 5) :
    Calls Try.prog 51 #[.agg (tabCs t ta tc).toArray, .pointer (some ⟨g, 0, none⟩), .agg (opCs o).toArray, .int .u64 (count : Int)] W (RetE (nowL r q cd co cm) m W g 51 (NowE (.int .i64 ((consumeR t r o).2 : Int)) (consumeR t r o).1)) := by
  obtain ⟨va, vc, da, dc, oa, oc, ma, mc⟩ := q
  have k7 := eqF (a := (o.kind : Int)) (b := 7) (by omega)
  have k1 := eqF (a := (o.kind : Int)) (b := 1) (by omega)
  have k5 := eqT (a := (o.kind : Int)) (b := 5) (by omega)
  refine Sy.enter Try.func51 rfl Try.ntmps51 rfl ?_; intro ac T; simp only [Sy.enum, Nat.zero_add, Nat.reduceAdd] at T
  repeat (first
    | (((with_reducible refine Sy.is_load ?_); (first
    | refine Sy.st_loadOne T F (h := ?_)
    | refine Sy.st_loadAll T F (h := ?_)); clear T; intro ac T))
    | (((with_reducible refine Sy.is_box ?_); (refine Sy.st_boxAgg T F (h := ?_)); clear T F; intro ac g w T F))
    | (((with_reducible refine Sy.is_op ?_); refine Sy.st_pure T (h := ?_); clear T; intro ac T))
    | ((with_reducible refine Sy.is_cond ?_); (first
    | refine Sy.st_true T (h := ?_)
    | refine Sy.st_false T (h := ?_)))
    | (with_reducible refine wpList_nil ?_)
    | (with_reducible refine wp_region_lit ?_)
    | (with_reducible refine wp_block ?_)
    | ((with_reducible refine wp_seq_k ?_); intro _ _)
    | (go_at_K; go_step)
    | (simp only [Exit.then, Exit.inBlock, ↓reduceIte, Nat.reduceEqDiff]))
  refine Sy.st_callE T F (L1 := []) (by rw [List.append_nil]) (by repeat (first | exact Sy.Take.here | apply Sy.Take.there)) (fun F' => consume_any w m F' h hl hm hml t ta tc ht o ho hx hx1 hx2) (h := ?_)
  clear T F; intro v m' cs' L' ac w hR hS T F
  generalize consumeR t r o = fr at *
  obtain ⟨rfl, ⟨va, vc, da, dc, oa, oc, ma, mc⟩, cd2, co2, cm2, rfl, rfl, h2⟩ := hR
  rw [List.append_nil] at F
  repeat (first
    | (((with_reducible refine Sy.is_op ?_); refine Sy.st_pure T (h := ?_); clear T; intro ac T))
    | (with_reducible refine wpList_nil ?_)
    | (with_reducible refine wp_ret ?_)
    | (go_at_K; go_step)
    | (simp only [Exit.then, Exit.inBlock, ↓reduceIte, Nat.reduceEqDiff]))
  ((try simp only [Exit.inBlock, Exit.then]); refine Sy.st_ret1 T F rfl (by repeat (first | exact Sy.ResV.nil | apply Sy.ResV.tmp rfl | apply Sy.ResV.row rfl rfl rfl (by repeat (first | exact Sy.Take.here | apply Sy.Take.there)) (by rfl) | apply Sy.ResV.one rfl rfl rfl (by repeat (first | exact Sy.Take.here | apply Sy.Take.there)) (by rfl))) ?_)
  exact F.retE (by repeat (first | exact Sy.Take.here | apply Sy.Take.there)) ⟨rfl, ⟨va, vc, da, dc, oa, oc, ma, mc⟩, cd2, co2, cm2, rfl, rfl, h2⟩
set_option maxRecDepth 20000 in
set_option maxHeartbeats 2000000 in
theorem does_clear0 (W m : World) {g : Nat} {r : RegD} {q : RegA} {cd co cm : List (List Value)} (F : Sy.Handx (nowL r q cd co cm) m W g (regCs r q) 51) (h : NowAt m r q cd co cm) (hl : r.out.length ≤ 1000) (hm : (r.marks.map (·.source)).Pairwise (· < ·)) (hml : r.marks.length ≤ 1000) (t : TabD) (ta : Option Addr) (tc : Nat) (ht : TabAt m t ta tc) (o : OpD) (ho : OkA o.arg) (hx : o.source < 256) (hx1 : U64 o.inc) (hx2 : U64 o.cell) (count n : Nat) (hc : U64 count) (hv : t.vars = (n : Int)) (hn8 : n ≤ 8) (hk : o.kind = 6) (hr : r.kind ≠ 1) :
    Calls Try.prog 51 #[.agg (tabCs t ta tc).toArray, .pointer (some ⟨g, 0, none⟩), .agg (opCs o).toArray, .int .u64 (count : Int)] W (RetE (nowL r q cd co cm) m W g 51 (NowE (.int .i64 (((r, 0) : RegD × Nat).2 : Int)) ((r, 0) : RegD × Nat).1)) := by
  obtain ⟨va, vc, da, dc, oa, oc, ma, mc⟩ := q
  have k7 := eqF (a := (o.kind : Int)) (b := 7) (by omega)
  have k1 := eqF (a := (o.kind : Int)) (b := 1) (by omega)
  have k5 := eqF (a := (o.kind : Int)) (b := 5) (by omega)
  have k6 := eqT (a := (o.kind : Int)) (b := 6) (by omega)
  have r1 := eqF (a := (r.kind : Int)) (b := 1) (by omega)
  refine Sy.enter Try.func51 rfl Try.ntmps51 rfl ?_; intro ac T; simp only [Sy.enum, Nat.zero_add, Nat.reduceAdd] at T
  repeat (first
    | (((with_reducible refine Sy.is_load ?_); (refine Sy.st_loadOne T F (h := ?_)); clear T; intro ac T))
    | (((with_reducible refine Sy.is_box ?_); (refine Sy.st_boxAgg T F (h := ?_)); clear T F; intro ac g w T F))
    | (((with_reducible refine Sy.is_op ?_); refine Sy.st_pure T (h := ?_); clear T; intro ac T))
    | ((with_reducible refine Sy.is_cond ?_); (first
    | refine Sy.st_true T (h := ?_)
    | refine Sy.st_false T (h := ?_)))
    | (with_reducible refine wpList_nil ?_)
    | (with_reducible refine wp_region_lit ?_)
    | (with_reducible refine wp_block ?_)
    | (with_reducible refine wp_skip ?_)
    | (with_reducible refine wp_ret ?_)
    | ((with_reducible refine wp_seq_k ?_); intro _ _)
    | (go_at_K; go_step)
    | (simp only [Exit.then, Exit.inBlock, ↓reduceIte, Nat.reduceEqDiff])
    | ((with_reducible refine Sy.is_drawn (id := 9) ?_); refine Sy.sx_region F [] (.t 0 (.t 1 (.t 2 (.t 3 (.t 4 (.t 5 (.t 6 (.t 7 (.t 8 (.t 9 (.t 10 (.t 11 (.t 12 (.t 13 .e)))))))))))))) [] (by kernel_rfl) ?_; (clear F; intro w F))
    | ((refine Sy.sx_plain (h := ?_)); (first
    | ((with_reducible refine Sy.ux_load ?_); (refine Sy.sx_val (Sy.rx_loadOne T F) T rfl ?_); clear T; intro ac T)
    | (refine Sy.sx_pure T (h := ?_); clear T; intro ac T)); show Sy.wpUx _ _ _ _ _ _ _ _ _)
    | ((refine Sy.sx_unguard (T := T) (h := ?_)); clear T; intro ac T)
    | (with_reducible refine Sy.sx_nil ?_)
    | (with_reducible refine Sy.sx_end ?_))
  ((try simp only [Exit.inBlock, Exit.then]); refine Sy.st_ret1 T F rfl (by repeat (first | exact Sy.ResV.nil | apply Sy.ResV.tmp rfl | apply Sy.ResV.row rfl rfl rfl (by repeat (first | exact Sy.Take.here | apply Sy.Take.there)) (by rfl) | apply Sy.ResV.one rfl rfl rfl (by repeat (first | exact Sy.Take.here | apply Sy.Take.there)) (by rfl))) ?_)
  exact F.retE (by repeat (first | exact Sy.Take.here | apply Sy.Take.there)) ⟨rfl, ⟨va, vc, da, dc, oa, oc, ma, mc⟩, cd, co, cm, rfl, rfl, h⟩
set_option maxRecDepth 20000 in
set_option maxHeartbeats 2000000 in
theorem does_clear1 (W m : World) {g : Nat} {r : RegD} {q : RegA} {cd co cm : List (List Value)} (F : Sy.Handx (nowL r q cd co cm) m W g (regCs r q) 51) (h : NowAt m r q cd co cm) (hl : r.out.length ≤ 1000) (hm : (r.marks.map (·.source)).Pairwise (· < ·)) (hml : r.marks.length ≤ 1000) (t : TabD) (ta : Option Addr) (tc : Nat) (ht : TabAt m t ta tc) (o : OpD) (ho : OkA o.arg) (hx : o.source < 256) (hx1 : U64 o.inc) (hx2 : U64 o.cell) (count n : Nat) (hc : U64 count) (hv : t.vars = (n : Int)) (hn8 : n ≤ 8) (hk : o.kind = 6) (hr : r.kind = 1) (hi : r.inc ≠ o.inc) :
    Calls Try.prog 51 #[.agg (tabCs t ta tc).toArray, .pointer (some ⟨g, 0, none⟩), .agg (opCs o).toArray, .int .u64 (count : Int)] W (RetE (nowL r q cd co cm) m W g 51 (NowE (.int .i64 (((r, 0) : RegD × Nat).2 : Int)) ((r, 0) : RegD × Nat).1)) := by
  obtain ⟨va, vc, da, dc, oa, oc, ma, mc⟩ := q
  have k7 := eqF (a := (o.kind : Int)) (b := 7) (by omega)
  have k1 := eqF (a := (o.kind : Int)) (b := 1) (by omega)
  have k5 := eqF (a := (o.kind : Int)) (b := 5) (by omega)
  have k6 := eqT (a := (o.kind : Int)) (b := 6) (by omega)
  have r1 := eqT (a := (r.kind : Int)) (b := 1) (by omega)
  have r2 := eqF (a := (r.inc : Int)) (b := (o.inc : Int)) (by omega)
  refine Sy.enter Try.func51 rfl Try.ntmps51 rfl ?_; intro ac T; simp only [Sy.enum, Nat.zero_add, Nat.reduceAdd] at T
  repeat (first
    | (((with_reducible refine Sy.is_load ?_); (refine Sy.st_loadOne T F (h := ?_)); clear T; intro ac T))
    | (((with_reducible refine Sy.is_box ?_); (refine Sy.st_boxAgg T F (h := ?_)); clear T F; intro ac g w T F))
    | (((with_reducible refine Sy.is_op ?_); refine Sy.st_pure T (h := ?_); clear T; intro ac T))
    | ((with_reducible refine Sy.is_cond ?_); (first
    | refine Sy.st_true T (h := ?_)
    | refine Sy.st_false T (h := ?_)))
    | (with_reducible refine wpList_nil ?_)
    | (with_reducible refine wp_region_lit ?_)
    | (with_reducible refine wp_block ?_)
    | (with_reducible refine wp_skip ?_)
    | (with_reducible refine wp_ret ?_)
    | ((with_reducible refine wp_seq_k ?_); intro _ _)
    | (go_at_K; go_step)
    | (simp only [Exit.then, Exit.inBlock, ↓reduceIte, Nat.reduceEqDiff])
    | ((with_reducible refine Sy.is_drawn (id := 9) ?_); refine Sy.sx_region F [] (.t 0 (.t 1 (.t 2 (.t 3 (.t 4 (.t 5 (.t 6 (.t 7 (.t 8 (.t 9 (.t 10 (.t 11 (.t 12 (.t 13 .e)))))))))))))) [] (by kernel_rfl) ?_; (clear F; intro w F))
    | ((first
    | refine Sy.sx_plain (h := ?_)
    | refine Sy.sx_guard (T := T) (h := ?_)); (first
    | ((with_reducible refine Sy.ux_load ?_); (refine Sy.sx_val (Sy.rx_loadOne T F) T rfl ?_); clear T; intro ac T)
    | (refine Sy.sx_pure T (h := ?_); clear T; intro ac T)); show Sy.wpUx _ _ _ _ _ _ _ _ _)
    | (with_reducible refine Sy.sx_nil ?_)
    | (with_reducible refine Sy.sx_end ?_))
  ((try simp only [Exit.inBlock, Exit.then]); refine Sy.st_ret1 T F rfl (by repeat (first | exact Sy.ResV.nil | apply Sy.ResV.tmp rfl | apply Sy.ResV.row rfl rfl rfl (by repeat (first | exact Sy.Take.here | apply Sy.Take.there)) (by rfl) | apply Sy.ResV.one rfl rfl rfl (by repeat (first | exact Sy.Take.here | apply Sy.Take.there)) (by rfl))) ?_)
  exact F.retE (by repeat (first | exact Sy.Take.here | apply Sy.Take.there)) ⟨rfl, ⟨va, vc, da, dc, oa, oc, ma, mc⟩, cd, co, cm, rfl, rfl, h⟩
set_option maxRecDepth 20000 in
set_option maxHeartbeats 2000000 in
theorem does_absent (W m : World) {g : Nat} {r : RegD} {q : RegA} {cd co cm : List (List Value)} (F : Sy.Handx (nowL r q cd co cm) m W g (regCs r q) 51) (h : NowAt m r q cd co cm) (hl : r.out.length ≤ 1000) (hm : (r.marks.map (·.source)).Pairwise (· < ·)) (hml : r.marks.length ≤ 1000) (t : TabD) (ta : Option Addr) (tc : Nat) (ht : TabAt m t ta tc) (o : OpD) (ho : OkA o.arg) (hx : o.source < 256) (hx1 : U64 o.inc) (hx2 : U64 o.cell) (count n : Nat) (hc : U64 count) (hv : t.vars = (n : Int)) (hn8 : n ≤ 8) (hk1 : o.kind ≠ 1) (hk5 : o.kind ≠ 5) (hk6 : o.kind ≠ 6) (hk7 : o.kind ≠ 7) (hr : r.kind ≠ 1) :
    Calls Try.prog 51 #[.agg (tabCs t ta tc).toArray, .pointer (some ⟨g, 0, none⟩), .agg (opCs o).toArray, .int .u64 (count : Int)] W (RetE (nowL r q cd co cm) m W g 51 (NowE (.int .i64 (((r, 11) : RegD × Nat).2 : Int)) ((r, 11) : RegD × Nat).1)) := by
  obtain ⟨va, vc, da, dc, oa, oc, ma, mc⟩ := q
  have k7 := eqF (a := (o.kind : Int)) (b := 7) (by omega)
  have k1 := eqF (a := (o.kind : Int)) (b := 1) (by omega)
  have k5 := eqF (a := (o.kind : Int)) (b := 5) (by omega)
  have k6 := eqF (a := (o.kind : Int)) (b := 6) (by omega)
  have r1 := eqF (a := (r.kind : Int)) (b := 1) (by omega)
  refine Sy.enter Try.func51 rfl Try.ntmps51 rfl ?_; intro ac T; simp only [Sy.enum, Nat.zero_add, Nat.reduceAdd] at T
  repeat (first
    | (((with_reducible refine Sy.is_load ?_); (refine Sy.st_loadOne T F (h := ?_)); clear T; intro ac T))
    | (((with_reducible refine Sy.is_box ?_); (refine Sy.st_boxAgg T F (h := ?_)); clear T F; intro ac g w T F))
    | (((with_reducible refine Sy.is_op ?_); refine Sy.st_pure T (h := ?_); clear T; intro ac T))
    | ((with_reducible refine Sy.is_cond ?_); (first
    | refine Sy.st_true T (h := ?_)
    | refine Sy.st_false T (h := ?_)))
    | (with_reducible refine wpList_nil ?_)
    | (with_reducible refine wp_region_lit ?_)
    | (with_reducible refine wp_block ?_)
    | (with_reducible refine wp_skip ?_)
    | (with_reducible refine wp_ret ?_)
    | ((with_reducible refine wp_seq_k ?_); intro _ _)
    | (go_at_K; go_step)
    | (simp only [Exit.then, Exit.inBlock, ↓reduceIte, Nat.reduceEqDiff]))
  ((try simp only [Exit.inBlock, Exit.then]); refine Sy.st_ret1 T F rfl (by repeat (first | exact Sy.ResV.nil | apply Sy.ResV.tmp rfl | apply Sy.ResV.row rfl rfl rfl (by repeat (first | exact Sy.Take.here | apply Sy.Take.there)) (by rfl) | apply Sy.ResV.one rfl rfl rfl (by repeat (first | exact Sy.Take.here | apply Sy.Take.there)) (by rfl))) ?_)
  exact F.retE (by repeat (first | exact Sy.Take.here | apply Sy.Take.there)) ⟨rfl, ⟨va, vc, da, dc, oa, oc, ma, mc⟩, cd, co, cm, rfl, rfl, h⟩
set_option maxRecDepth 20000 in
set_option maxHeartbeats 2000000 in
theorem does_fire (W m : World) {g : Nat} {r : RegD} {q : RegA} {cd co cm : List (List Value)} (F : Sy.Handx (nowL r q cd co cm) m W g (regCs r q) 51) (h : NowAt m r q cd co cm) (hl : r.out.length ≤ 1000) (hm : (r.marks.map (·.source)).Pairwise (· < ·)) (hml : r.marks.length ≤ 1000) (t : TabD) (ta : Option Addr) (tc : Nat) (ht : TabAt m t ta tc) (o : OpD) (ho : OkA o.arg) (hx : o.source < 256) (hx1 : U64 o.inc) (hx2 : U64 o.cell) (count n : Nat) (hc : U64 count) (hv : t.vars = (n : Int)) (hn8 : n ≤ 8) (hk : o.kind = 2) (hr : r.kind = 1) :
    Calls Try.prog 51 #[.agg (tabCs t ta tc).toArray, .pointer (some ⟨g, 0, none⟩), .agg (opCs o).toArray, .int .u64 (count : Int)] W (RetE (nowL r q cd co cm) m W g 51 (NowE (.int .i64 ((fireR t r o o.party).2 : Int)) (fireR t r o o.party).1)) := by
  obtain ⟨va, vc, da, dc, oa, oc, ma, mc⟩ := q
  have k7 := eqF (a := (o.kind : Int)) (b := 7) (by omega)
  have k1 := eqF (a := (o.kind : Int)) (b := 1) (by omega)
  have k5 := eqF (a := (o.kind : Int)) (b := 5) (by omega)
  have k6 := eqF (a := (o.kind : Int)) (b := 6) (by omega)
  have k2 := eqT (a := (o.kind : Int)) (b := 2) (by omega)
  have r1 := eqT (a := (r.kind : Int)) (b := 1) (by omega)
  refine Sy.enter Try.func51 rfl Try.ntmps51 rfl ?_; intro ac T; simp only [Sy.enum, Nat.zero_add, Nat.reduceAdd] at T
  repeat (first
    | (((with_reducible refine Sy.is_load ?_); (first
    | refine Sy.st_loadOne T F (h := ?_)
    | refine Sy.st_loadAll T F (h := ?_)); clear T; intro ac T))
    | (((with_reducible refine Sy.is_box ?_); (refine Sy.st_boxAgg T F (h := ?_)); clear T F; intro ac g w T F))
    | (((with_reducible refine Sy.is_op ?_); refine Sy.st_pure T (h := ?_); clear T; intro ac T))
    | ((with_reducible refine Sy.is_cond ?_); (first
    | refine Sy.st_true T (h := ?_)
    | refine Sy.st_false T (h := ?_)))
    | (with_reducible refine wpList_nil ?_)
    | (with_reducible refine wp_region_lit ?_)
    | (with_reducible refine wp_block ?_)
    | (with_reducible refine wp_skip ?_)
    | ((with_reducible refine wp_seq_k ?_); intro _ _)
    | (go_at_K; go_step)
    | (simp only [Exit.then, Exit.inBlock, ↓reduceIte, Nat.reduceEqDiff]))
  refine Sy.st_callE T F (L1 := []) (by rw [List.append_nil]) (by repeat (first | exact Sy.Take.here | apply Sy.Take.there)) (fun F' => fire_any w m F' h hl t ta tc ht o ho o.party) (h := ?_)
  clear T F; intro v m' cs' L' ac w hR hS T F
  generalize fireR t r o o.party = fr at *
  obtain ⟨rfl, ⟨va, vc, da, dc, oa, oc, ma, mc⟩, cd2, co2, cm2, rfl, rfl, h2⟩ := hR
  rw [List.append_nil] at F
  repeat (first
    | (((with_reducible refine Sy.is_op ?_); refine Sy.st_pure T (h := ?_); clear T; intro ac T))
    | (with_reducible refine wpList_nil ?_)
    | (with_reducible refine wp_ret ?_)
    | (go_at_K; go_step)
    | (simp only [Exit.then, Exit.inBlock, ↓reduceIte, Nat.reduceEqDiff]))
  ((try simp only [Exit.inBlock, Exit.then]); refine Sy.st_ret1 T F rfl (by repeat (first | exact Sy.ResV.nil | apply Sy.ResV.tmp rfl | apply Sy.ResV.row rfl rfl rfl (by repeat (first | exact Sy.Take.here | apply Sy.Take.there)) (by rfl) | apply Sy.ResV.one rfl rfl rfl (by repeat (first | exact Sy.Take.here | apply Sy.Take.there)) (by rfl))) ?_)
  exact F.retE (by repeat (first | exact Sy.Take.here | apply Sy.Take.there)) ⟨rfl, ⟨va, vc, da, dc, oa, oc, ma, mc⟩, cd2, co2, cm2, rfl, rfl, h2⟩
set_option maxRecDepth 20000 in
set_option maxHeartbeats 2000000 in
theorem does_delete (W m : World) {g : Nat} {r : RegD} {q : RegA} {cd co cm : List (List Value)} (F : Sy.Handx (nowL r q cd co cm) m W g (regCs r q) 51) (h : NowAt m r q cd co cm) (hl : r.out.length ≤ 1000) (hm : (r.marks.map (·.source)).Pairwise (· < ·)) (hml : r.marks.length ≤ 1000) (t : TabD) (ta : Option Addr) (tc : Nat) (ht : TabAt m t ta tc) (o : OpD) (ho : OkA o.arg) (hx : o.source < 256) (hx1 : U64 o.inc) (hx2 : U64 o.cell) (count n : Nat) (hc : U64 count) (hv : t.vars = (n : Int)) (hn8 : n ≤ 8) (hk : o.kind = 4) (hr : r.kind = 1) :
    Calls Try.prog 51 #[.agg (tabCs t ta tc).toArray, .pointer (some ⟨g, 0, none⟩), .agg (opCs o).toArray, .int .u64 (count : Int)] W (RetE (nowL r q cd co cm) m W g 51 (NowE (.int .i64 ((removeR r).2 : Int)) (removeR r).1)) := by
  obtain ⟨va, vc, da, dc, oa, oc, ma, mc⟩ := q
  have k7 := eqF (a := (o.kind : Int)) (b := 7) (by omega)
  have k1 := eqF (a := (o.kind : Int)) (b := 1) (by omega)
  have k5 := eqF (a := (o.kind : Int)) (b := 5) (by omega)
  have k6 := eqF (a := (o.kind : Int)) (b := 6) (by omega)
  have k2 := eqF (a := (o.kind : Int)) (b := 2) (by omega)
  have k4 := eqT (a := (o.kind : Int)) (b := 4) (by omega)
  have r1 := eqT (a := (r.kind : Int)) (b := 1) (by omega)
  refine Sy.enter Try.func51 rfl Try.ntmps51 rfl ?_; intro ac T; simp only [Sy.enum, Nat.zero_add, Nat.reduceAdd] at T
  repeat (first
    | (((with_reducible refine Sy.is_load ?_); (refine Sy.st_loadOne T F (h := ?_)); clear T; intro ac T))
    | (((with_reducible refine Sy.is_box ?_); (refine Sy.st_boxAgg T F (h := ?_)); clear T F; intro ac g w T F))
    | (((with_reducible refine Sy.is_op ?_); refine Sy.st_pure T (h := ?_); clear T; intro ac T))
    | ((with_reducible refine Sy.is_cond ?_); (first
    | refine Sy.st_true T (h := ?_)
    | refine Sy.st_false T (h := ?_)))
    | (with_reducible refine wpList_nil ?_)
    | (with_reducible refine wp_region_lit ?_)
    | (with_reducible refine wp_block ?_)
    | (with_reducible refine wp_skip ?_)
    | ((with_reducible refine wp_seq_k ?_); intro _ _)
    | (go_at_K; go_step)
    | (simp only [Exit.then, Exit.inBlock, ↓reduceIte, Nat.reduceEqDiff]))
  refine Sy.st_callE T F (L1 := []) (by rw [List.append_nil]) (by repeat (first | exact Sy.Take.here | apply Sy.Take.there)) (fun F' => remove_any w m F' h) (h := ?_)
  clear T F; intro v m' cs' L' ac w hR hS T F
  generalize removeR r = fr at *
  obtain ⟨rfl, ⟨va, vc, da, dc, oa, oc, ma, mc⟩, cd2, co2, cm2, rfl, rfl, h2⟩ := hR
  rw [List.append_nil] at F
  repeat (first
    | (((with_reducible refine Sy.is_op ?_); refine Sy.st_pure T (h := ?_); clear T; intro ac T))
    | (with_reducible refine wpList_nil ?_)
    | (with_reducible refine wp_ret ?_)
    | (go_at_K; go_step)
    | (simp only [Exit.then, Exit.inBlock, ↓reduceIte, Nat.reduceEqDiff]))
  ((try simp only [Exit.inBlock, Exit.then]); refine Sy.st_ret1 T F rfl (by repeat (first | exact Sy.ResV.nil | apply Sy.ResV.tmp rfl | apply Sy.ResV.row rfl rfl rfl (by repeat (first | exact Sy.Take.here | apply Sy.Take.there)) (by rfl) | apply Sy.ResV.one rfl rfl rfl (by repeat (first | exact Sy.Take.here | apply Sy.Take.there)) (by rfl))) ?_)
  exact F.retE (by repeat (first | exact Sy.Take.here | apply Sy.Take.there)) ⟨rfl, ⟨va, vc, da, dc, oa, oc, ma, mc⟩, cd2, co2, cm2, rfl, rfl, h2⟩
set_option maxRecDepth 20000 in
set_option maxHeartbeats 2000000 in
theorem does_read (W m : World) {g : Nat} {r : RegD} {q : RegA} {cd co cm : List (List Value)} (F : Sy.Handx (nowL r q cd co cm) m W g (regCs r q) 51) (h : NowAt m r q cd co cm) (hl : r.out.length ≤ 1000) (hm : (r.marks.map (·.source)).Pairwise (· < ·)) (hml : r.marks.length ≤ 1000) (t : TabD) (ta : Option Addr) (tc : Nat) (ht : TabAt m t ta tc) (o : OpD) (ho : OkA o.arg) (hx : o.source < 256) (hx1 : U64 o.inc) (hx2 : U64 o.cell) (count n : Nat) (hc : U64 count) (hv : t.vars = (n : Int)) (hn8 : n ≤ 8) (hk1 : o.kind ≠ 1) (hk2 : o.kind ≠ 2) (hk4 : o.kind ≠ 4) (hk5 : o.kind ≠ 5) (hk6 : o.kind ≠ 6) (hk7 : o.kind ≠ 7) (hr : r.kind = 1) :
    Calls Try.prog 51 #[.agg (tabCs t ta tc).toArray, .pointer (some ⟨g, 0, none⟩), .agg (opCs o).toArray, .int .u64 (count : Int)] W (RetE (nowL r q cd co cm) m W g 51 (NowE (.int .i64 (((r, 0) : RegD × Nat).2 : Int)) ((r, 0) : RegD × Nat).1)) := by
  obtain ⟨va, vc, da, dc, oa, oc, ma, mc⟩ := q
  have k7 := eqF (a := (o.kind : Int)) (b := 7) (by omega)
  have k1 := eqF (a := (o.kind : Int)) (b := 1) (by omega)
  have k5 := eqF (a := (o.kind : Int)) (b := 5) (by omega)
  have k6 := eqF (a := (o.kind : Int)) (b := 6) (by omega)
  have k2 := eqF (a := (o.kind : Int)) (b := 2) (by omega)
  have k4 := eqF (a := (o.kind : Int)) (b := 4) (by omega)
  have r1 := eqT (a := (r.kind : Int)) (b := 1) (by omega)
  refine Sy.enter Try.func51 rfl Try.ntmps51 rfl ?_; intro ac T; simp only [Sy.enum, Nat.zero_add, Nat.reduceAdd] at T
  repeat (first
    | (((with_reducible refine Sy.is_load ?_); (refine Sy.st_loadOne T F (h := ?_)); clear T; intro ac T))
    | (((with_reducible refine Sy.is_box ?_); (refine Sy.st_boxAgg T F (h := ?_)); clear T F; intro ac g w T F))
    | (((with_reducible refine Sy.is_op ?_); refine Sy.st_pure T (h := ?_); clear T; intro ac T))
    | ((with_reducible refine Sy.is_cond ?_); (refine Sy.st_false T (h := ?_)))
    | (with_reducible refine wpList_nil ?_)
    | (with_reducible refine wp_region_lit ?_)
    | (with_reducible refine wp_block ?_)
    | (with_reducible refine wp_skip ?_)
    | (with_reducible refine wp_ret ?_)
    | ((with_reducible refine wp_seq_k ?_); intro _ _)
    | (go_at_K; go_step)
    | (simp only [Exit.then, Exit.inBlock, ↓reduceIte, Nat.reduceEqDiff]))
  ((try simp only [Exit.inBlock, Exit.then]); refine Sy.st_ret1 T F rfl (by repeat (first | exact Sy.ResV.nil | apply Sy.ResV.tmp rfl | apply Sy.ResV.row rfl rfl rfl (by repeat (first | exact Sy.Take.here | apply Sy.Take.there)) (by rfl) | apply Sy.ResV.one rfl rfl rfl (by repeat (first | exact Sy.Take.here | apply Sy.Take.there)) (by rfl))) ?_)
  exact F.retE (by repeat (first | exact Sy.Take.here | apply Sy.Take.there)) ⟨rfl, ⟨va, vc, da, dc, oa, oc, ma, mc⟩, cd, co, cm, rfl, rfl, h⟩
set_option maxRecDepth 20000 in
theorem clear1_any (w : World) (c : CellD) (cell : Nat) (b : Nat) (hc : w.cell? ⟨b, 9, none⟩ = some (.int .u64 (cell : Int))) :
    Calls Try.prog 80 ([] ++ [Value.agg (cellW c).toArray] ++ [Value.pointer (some ⟨b, 0, none⟩)]).toArray w (RetV w (.bool ((c.n : Int) == (cell : Int)))) := by
  have F := Sy.Mem.start (Sub.refl w)
  show Calls Try.prog 80 #[.agg (cellW c).toArray, .pointer (some ⟨b, 0, none⟩)] w _
  refine Sy.enter Try.func80 rfl Try.ntmps80 rfl ?_; intro ac T; simp only [Sy.enum, Nat.zero_add, Nat.reduceAdd] at T
  repeat (first
    | (((with_reducible refine Sy.is_load ?_); (first
    | refine Sy.st_loadOne T F (h := ?_)
    | refine Sy.st_oldOne T F (h := ?_)); clear T; intro ac T))
    | (((with_reducible refine Sy.is_box ?_); (refine Sy.st_boxAgg T F (h := ?_)); clear T F; intro ac g w T F))
    | (((with_reducible refine Sy.is_op ?_); refine Sy.st_pure T (h := ?_); clear T; intro ac T))
    | (with_reducible refine wpList_nil ?_)
    | (with_reducible refine wp_region_lit ?_)
    | (with_reducible refine wp_ret ?_)
    | ((with_reducible refine wp_seq_k ?_); intro _ _)
    | (go_at_K; go_step)
    | (simp only [Exit.then, Exit.inBlock, ↓reduceIte, Nat.reduceEqDiff]))
  ((try simp only [Exit.inBlock, Exit.then]); refine Sy.st_ret1 T F rfl (by repeat (first | exact Sy.ResV.nil | apply Sy.ResV.tmp rfl | apply Sy.ResV.row rfl rfl rfl (by repeat (first | exact Sy.Take.here | apply Sy.Take.there)) (by rfl) | apply Sy.ResV.one rfl rfl rfl (by repeat (first | exact Sy.Take.here | apply Sy.Take.there)) (by rfl))) ?_)
  exact F.retV _
set_option maxRecDepth 20000 in
set_option maxHeartbeats 2000000 in
theorem does_clear2 (W m : World) {g : Nat} {r : RegD} {q : RegA} {cd co cm : List (List Value)} (F : Sy.Handx (nowL r q cd co cm) m W g (regCs r q) 51) (h : NowAt m r q cd co cm) (hl : r.out.length ≤ 1000) (hm : (r.marks.map (·.source)).Pairwise (· < ·)) (hml : r.marks.length ≤ 1000) (t : TabD) (ta : Option Addr) (tc : Nat) (ht : TabAt m t ta tc) (o : OpD) (ho : OkA o.arg) (hx : o.source < 256) (hx1 : U64 o.inc) (hx2 : U64 o.cell) (count n : Nat) (hc : U64 count) (hv : t.vars = (n : Int)) (hn8 : n ≤ 8) (hk : o.kind = 6) (hr : r.kind = 1) (hi : r.inc = o.inc) :
    Calls Try.prog 51 #[.agg (tabCs t ta tc).toArray, .pointer (some ⟨g, 0, none⟩), .agg (opCs o).toArray, .int .u64 (count : Int)] W (RetE (nowL r q cd co cm) m W g 51 (NowE (.int .i64 (((cleared r o.cell, 0) : RegD × Nat).2 : Int)) ((cleared r o.cell, 0) : RegD × Nat).1)) := by
  obtain ⟨va, vc, da, dc, oa, oc, ma, mc⟩ := q
  have k7 := eqF (a := (o.kind : Int)) (b := 7) (by omega)
  have k1 := eqF (a := (o.kind : Int)) (b := 1) (by omega)
  have k5 := eqF (a := (o.kind : Int)) (b := 5) (by omega)
  have k6 := eqT (a := (o.kind : Int)) (b := 6) (by omega)
  have r1 := eqT (a := (r.kind : Int)) (b := 1) (by omega)
  have r2 := eqT (a := (r.inc : Int)) (b := (o.inc : Int)) (by omega)
  have hco := cells_map h.out
  subst hco
  have hok : ∀ c ∈ r.out, CellR m (cellW c) c := fun c hc => by
    obtain ⟨i, hi, rfl⟩ := List.getElem_of_mem hc
    have := (h.out.2 i (by simpa using hi) hi).2
    rw [List.getElem_map] at this
    exact this
  refine Sy.enter Try.func51 rfl Try.ntmps51 rfl ?_; intro ac T; simp only [Sy.enum, Nat.zero_add, Nat.reduceAdd] at T
  repeat (first
    | (((with_reducible refine Sy.is_load ?_); (refine Sy.st_loadOne T F (h := ?_)); clear T; intro ac T))
    | (((with_reducible refine Sy.is_box ?_); (refine Sy.st_boxAgg T F (h := ?_)); clear T F; intro ac g w T F))
    | (((with_reducible refine Sy.is_op ?_); refine Sy.st_pure T (h := ?_); clear T; intro ac T))
    | ((with_reducible refine Sy.is_cond ?_); (first
    | refine Sy.st_true T (h := ?_)
    | refine Sy.st_false T (h := ?_)))
    | (with_reducible refine wpList_nil ?_)
    | (with_reducible refine wp_region_lit ?_)
    | (with_reducible refine wp_block ?_)
    | ((with_reducible refine wp_seq_k ?_); intro _ _)
    | (go_at_K; go_step)
    | (simp only [Exit.then, Exit.inBlock, ↓reduceIte, Nat.reduceEqDiff])
    | ((with_reducible refine Sy.is_drawn (id := 9) ?_); refine Sy.sx_region F [] (.t 0 (.t 1 (.t 2 (.t 3 (.t 4 (.t 5 (.t 6 (.t 7 (.t 8 (.t 9 (.t 10 (.t 11 (.t 12 (.t 13 .e)))))))))))))) [] (by kernel_rfl) ?_; (clear F; intro w F))
    | ((first
    | refine Sy.sx_plain (h := ?_)
    | refine Sy.sx_guard (T := T) (h := ?_)); (first
    | ((with_reducible refine Sy.ux_load ?_); (refine Sy.sx_val (Sy.rx_loadOne T F) T rfl ?_); clear T; intro ac T)
    | (refine Sy.sx_pure T (h := ?_); clear T; intro ac T)); show Sy.wpUx _ _ _ _ _ _ _ _ _)
    | (with_reducible refine Sy.sx_nil ?_)
    | (with_reducible refine Sy.sx_end ?_))
  obtain ⟨b6, rfl⟩ := nameP T 6 rfl
  replace F := (F.ownPerm (perm_out _ _ _)).toA
  have hb6 : w.cell? ⟨b6, 9, none⟩ = some (.int .u64 (o.cell : Int)) := cell_ownX (F.get (show Sy.Take _ b6 (opCs o) _ _ by repeat (first | exact Sy.Take.here | apply Sy.Take.there))) 9 rfl
  have hne : blk (.slice oa r.out.length oc) ≠ some b6 := fun hbk => (F.loose _ (.inr hbk)).2.1 (by simp)
  have hcl : ∀ m2, (∀ q, blk (.slice oa r.out.length oc) ≠ some q.block → m2.cell? q = w.cell? q) → ClosB CellR m2 80 [.pointer (some ⟨b6, 0, none⟩)] r.out (fun c => (c.n : Int) == (o.cell : Int)) := fun m2 hm2 w' m3 s1 s2 d _ cs hr => by
    obtain ⟨rfl, _⟩ := hr
    exact clear1_any w' d o.cell b6 (s2 _ _ (s1 _ _ (by rw [hm2 ⟨b6, 9, none⟩ hne]; exact hb6)))
  have G := delFunc w (a := oa) (cap := oc) hl (fun c hc => hok c hc) F.ext.2.1 (ks := [.pointer (some ⟨b6, 0, none⟩)]) (f := 80) (by exact rfl) hcl
  refine Sy.st_callO T F G (h := ?_); clear T F G; intro v' ac w T F
  obtain ⟨ad', cap', rfl⟩ : ∃ ad' cap', v' = .slice ad' (r.out.filter fun c => !((c.n : Int) == (o.cell : Int))).length cap' := by
    obtain ⟨ad, cap, rfl, _⟩ := F.ext.2.1
    exact ⟨ad, cap, rfl⟩
  repeat (first
    | (((with_reducible refine Sy.is_store ?_); ((refine Sy.st_storeOne T F (h := ?_); conv => whnf)); clear T F; intro ac w T F))
    | (((with_reducible refine Sy.is_op ?_); refine Sy.st_pure T (h := ?_); clear T; intro ac T))
    | (with_reducible refine wpList_nil ?_)
    | (with_reducible refine wp_region_lit ?_)
    | (with_reducible refine wp_ret ?_)
    | ((with_reducible refine wp_seq_k ?_); intro _ _)
    | (go_at_K; go_step)
    | (simp only [Exit.then, Exit.inBlock, ↓reduceIte, Nat.reduceEqDiff]))
  ((try simp only [Exit.inBlock, Exit.then]); refine Sy.st_ret1 T F rfl (by repeat (first | exact Sy.ResV.nil | apply Sy.ResV.tmp rfl | apply Sy.ResV.row rfl rfl rfl (by repeat (first | exact Sy.Take.here | apply Sy.Take.there)) (by rfl) | apply Sy.ResV.one rfl rfl rfl (by repeat (first | exact Sy.Take.here | apply Sy.Take.there)) (by rfl))) ?_)
  replace F := F.ofA.ownPerm (perm_out _ _ _)
  exact F.retE (by repeat (first | exact Sy.Take.here | apply Sy.Take.there)) ⟨rfl, ⟨va, vc, da, dc, ad', cap', ma, mc⟩, cd, _, cm, rfl, rfl, ⟨h.kind, h.inc, h.state, h.last, h.vars, h.cv, h.done, rows_cells fun c hc => hok c (List.mem_filter.1 hc).1, h.marks⟩⟩
theorem does_any (W m : World) {g : Nat} {r : RegD} {q : RegA} {cd co cm : List (List Value)} (F : Sy.Handx (nowL r q cd co cm) m W g (regCs r q) 51) (h : NowAt m r q cd co cm) (hl : r.out.length ≤ 1000) (hm : (r.marks.map (·.source)).Pairwise (· < ·)) (hml : r.marks.length ≤ 1000) (t : TabD) (ta : Option Addr) (tc : Nat) (ht : TabAt m t ta tc) (o : OpD) (ho : OkA o.arg) (hx : o.source < 256) (hx1 : U64 o.inc) (hx2 : U64 o.cell) (count n : Nat) (hc : U64 count) (hv : t.vars = (n : Int)) (hn8 : n ≤ 8) :
    Calls Try.prog 51 #[.agg (tabCs t ta tc).toArray, .pointer (some ⟨g, 0, none⟩), .agg (opCs o).toArray, .int .u64 (count : Int)] W (RetE (nowL r q cd co cm) m W g 51 (NowE (.int .i64 ((doesR t r o count n).2 : Int)) (doesR t r o count n).1)) := by
  unfold doesR
  by_cases k7 : o.kind = 7
  · rw [if_pos k7]; exact does_same W m F h hl hm hml t ta tc ht o ho hx hx1 hx2 count n hc hv hn8 k7
  rw [if_neg k7]
  by_cases k1 : o.kind = 1
  · rw [if_pos k1]; exact does_create W m F h hl hm hml t ta tc ht o ho hx hx1 hx2 count n hc hv hn8 k1
  rw [if_neg k1]
  by_cases k5 : o.kind = 5
  · rw [if_pos k5]; exact does_consume W m F h hl hm hml t ta tc ht o ho hx hx1 hx2 count n hc hv hn8 k5
  rw [if_neg k5]
  by_cases k6 : o.kind = 6
  · rw [if_pos k6]
    by_cases hr : r.kind = 1
    · by_cases hi : r.inc = o.inc
      · rw [if_pos ⟨hr, hi⟩]; exact does_clear2 W m F h hl hm hml t ta tc ht o ho hx hx1 hx2 count n hc hv hn8 k6 hr hi
      · rw [if_neg (fun h => hi h.2)]; exact does_clear1 W m F h hl hm hml t ta tc ht o ho hx hx1 hx2 count n hc hv hn8 k6 hr hi
    · rw [if_neg (fun h => hr h.1)]; exact does_clear0 W m F h hl hm hml t ta tc ht o ho hx hx1 hx2 count n hc hv hn8 k6 hr
  rw [if_neg k6]
  by_cases hr : r.kind = 1
  · rw [if_neg (fun h => h hr)]
    by_cases k2 : o.kind = 2
    · rw [if_pos k2]; exact does_fire W m F h hl hm hml t ta tc ht o ho hx hx1 hx2 count n hc hv hn8 k2 hr
    rw [if_neg k2]
    by_cases k4 : o.kind = 4
    · rw [if_pos k4]; exact does_delete W m F h hl hm hml t ta tc ht o ho hx hx1 hx2 count n hc hv hn8 k4 hr
    rw [if_neg k4]; exact does_read W m F h hl hm hml t ta tc ht o ho hx hx1 hx2 count n hc hv hn8 k1 k2 k4 k5 k6 k7 hr
  · rw [if_pos hr]; exact does_absent W m F h hl hm hml t ta tc ht o ho hx hx1 hx2 count n hc hv hn8 k1 k5 k6 k7 hr
end En
end Go.Proofs.Ytdpmfjbhadapiaa
namespace Go.Proofs.Ytdpmfjbhadapiaa
open Go.RowKit
set_option linter.unusedVariables false
set_option linter.unusedSimpArgs false
namespace Sy
def emp : Obj := .cells #[] 0 (0, 0)
/-- memory that stands still, with what a call made of one type -/
def joinT (m w' : World) (B : Nat) (e : TypeId) : World := { w' with heap := ((List.range w'.heap.size).map fun i => if i < B then (m.heap[i]?).getD emp else match w'.heap[i]? with | some (.cells cs t fr) => if t = e then .cells cs t fr else emp | _ => emp).toArray }
theorem joinT_heap (m w' : World) (B i : Nat) (e : TypeId) (h : i < w'.heap.size) : (joinT m w' B e).heap[i]? = some (if i < B then (m.heap[i]?).getD emp else match w'.heap[i]? with | some (.cells cs t fr) => if t = e then .cells cs t fr else emp | _ => emp) := by
  simp [joinT, h]
theorem cell_emp {w : World} {g : Nat} (h : w.heap[g]? = some emp) (i : Nat) (s : Option Nat) : w.cell? ⟨g, i, s⟩ = none := by
  cases s <;> simp [World.cell?, h, emp]
theorem joinT_low {m w' : World} {B : Nat} {e : TypeId} (hB : B ≤ w'.heap.size) (p : Addr) (hp : p.block < B) : (joinT m w' B e).cell? p = m.cell? p := by
  have := joinT_heap m w' B p.block e (Nat.lt_of_lt_of_le hp hB)
  rw [if_pos hp] at this
  unfold World.cell?
  rw [this]
  cases hm : m.heap[p.block]? with
  | none => simp [emp]
  | some o => simp
theorem joinT_e {m w' : World} {B b : Nat} {e : TypeId} {cs : Array Value} {fr : Nat × Nat} (hB : B ≤ b) (h : w'.heap[b]? = some (.cells cs e fr)) : (joinT m w' B e).heap[b]? = w'.heap[b]? := by
  rw [joinT_heap m w' B b e (Array.getElem?_eq_some_iff.1 h).1, if_neg (by omega), h]
  simp
theorem joinT_ne {m w' : World} {B b : Nat} {e t : TypeId} {cs : Array Value} {fr : Nat × Nat} (hB : B ≤ b) (h : w'.heap[b]? = some (.cells cs t fr)) (hne : t ≠ e) (i : Nat) (s : Option Nat) : (joinT m w' B e).cell? ⟨b, i, s⟩ = none := by
  refine cell_emp ?_ i s
  rw [joinT_heap m w' B b e (Array.getElem?_eq_some_iff.1 h).1, if_neg (by omega), h]
  simp [hne]
theorem joinT_sub {m w w' : World} {e : TypeId} (hs : Sub m w) (hb : Below w.heap.size w w') : Sub (joinT m w' w.heap.size e) w' := fun p v h => by
  by_cases hp : p.block < w.heap.size
  · rw [joinT_low hb.size p hp] at h
    exact sub_below hb p v (hs p v h)
  · obtain ⟨b, oo, ss⟩ := p
    simp only at hp
    have hlt := World.block_lt_of_cell? _ _ h
    have hsz : (joinT m w' w.heap.size e).heap.size = w'.heap.size := by simp [joinT]
    rw [hsz] at hlt
    have hh := joinT_heap m w' w.heap.size b e hlt
    rw [if_neg hp] at hh
    have hno : (joinT m w' w.heap.size e).heap[b]? = some emp → w'.cell? ⟨b, oo, ss⟩ = some v := fun k => by
      rw [cell_emp k oo ss] at h; cases h
    cases ho : w'.heap[b]? with
    | none => rw [ho] at hh; exact hno hh
    | some o =>
      rw [ho] at hh
      cases o with
      | cells cs t fr =>
        by_cases ht : t = e
        · simp only [if_pos ht] at hh
          rw [World.cell?_of_block (w := w') (by rw [hh, ho])] at h
          exact h
        · simp only [if_neg ht] at hh
          exact hno hh
      | _ => exact hno hh
theorem Own.oneT {w : World} {B : Nat} {e : TypeId} {s n : Nat} {v : Value} {xs : List Value} (h : Own w B e s v n xs) {k : Nat} (hk : blk v = some k) : B ≤ k ∧ ∃ cur, w.heap[k]? = some (.cells cur e (0, 0)) := by
  obtain ⟨a, cap, rfl, _, _, _, h4⟩ := h
  rcases h4 with h4 | ⟨g, cur, rfl, h5, h6, _⟩
  · subst h4
    cases a <;> simp [blk] at hk
  · cases cap with
    | zero => simp [blk] at hk
    | succ c =>
      simp [blk] at hk
      subst hk
      exact ⟨h5, cur, h6⟩
end Sy
namespace En
open Sy (RetV RetM Sub)
open Rg (RowsOf OwnRows NumR U8 U64 I64 RegD RegA RegAt RegOwn regCs DoneD DoneR MarkD MarkR CellD CellR repCs)
theorem nums_T {w' m' : World} {B : Nat} {a : Option Addr} {cap : Nat} {l : List Int} (h : OwnRows NumR 1 2 w' B a cap l) (hm : ∀ b cur, B ≤ b → w'.heap[b]? = some (.cells cur 2 (0, 0)) → m'.heap[b]? = w'.heap[b]?) : Nums m' a l := by
  obtain ⟨css, h1, h2⟩ := h
  have hx : OwnRows NumR 1 2 m' B a cap l := by
    refine ⟨css, ⟨h1.1, fun i p q => h1.2 i p q⟩, ?_⟩
    obtain ⟨a, cap, hv, h3, h4, h5, h6⟩ := h2
    refine ⟨a, cap, hv, h3, h4, h5, ?_⟩
    rcases h6 with h6 | ⟨g, cur, ha, h7, h8, h9⟩
    · exact .inl h6
    · exact .inr ⟨g, cur, ha, h7, by rw [hm g cur h7 h8]; exact h8, h9⟩
  exact (OwnRows.rows (by omega) hx).1
theorem MemE.cloned {c : Sy.Cx} {m w w' : World} {bs : List Sy.Blk} {r : RegD} {q : RegA} (F : Sy.MemE Sy.E0 c m bs w) (ho : RegOwn w' w.heap.size r q) (hb : Below w.heap.size w w') :
    ∃ m' cd co cm, Sub m m' ∧ Sy.MemE (Sy.OwL (nowL r q cd co cm)) c m' bs w' ∧ NowAt m' r q cd co cm := by
  obtain ⟨va, vc, da, dc, oa, oc, ma, mc⟩ := q
  have hlow : ∀ p : Addr, p.block < w.heap.size → (Sy.joinT m w' w.heap.size 2).cell? p = m.cell? p := fun p hp => Sy.joinT_low hb.size p hp
  have hkeep : ∀ b cur, w.heap.size ≤ b → w'.heap[b]? = some (.cells cur 2 (0, 0)) → (Sy.joinT m w' w.heap.size 2).heap[b]? = w'.heap[b]? := fun b cur h1 h2 => Sy.joinT_e h1 h2
  have hgone : ∀ b cur t, w.heap.size ≤ b → w'.heap[b]? = some (.cells cur t (0, 0)) → t ≠ 2 → ∀ i s, (Sy.joinT m w' w.heap.size 2).cell? ⟨b, i, s⟩ = none := fun b cur t h1 h2 h3 i s => Sy.joinT_ne h1 h2 h3 i s
  have hsub2 := Sy.joinT_sub (e := 2) F.sub hb
  have hsub : Sub m (Sy.joinT m w' w.heap.size 2) := fun p v e => by rw [hlow p (World.block_lt_of_cell? w _ (F.sub p v e))]; exact e
  generalize Sy.joinT m w' w.heap.size 2 = m' at *
  obtain ⟨hreg, hv, ⟨co, hco, hoo⟩, ⟨cm, hcm, hom⟩, ht⟩ := ho
  obtain ⟨cd, g, cur, h1, h2, h3, h4, h5⟩ := ht.it
  have hod : Own w' w.heap.size 96 6 (.slice da r.done.length dc) r.done.length cd.flatten := by
    refine ⟨da, dc, rfl, ?_, h2, h3, ?_⟩
    · rw [Rg.flat_len 6 cd h1.len, h1.1]
    · rcases h4 with h4 | ⟨e1, e2, e3, e4, e5⟩
      · exact .inl h4
      · exact .inr ⟨g, cur, e1, e2, e3, e4, e5⟩
  have F' := F.below hb
  have hty : ∀ {k e s n v xs}, Own w' w.heap.size e s v n xs → blk v = some k → e ≠ 2 → w.heap.size ≤ k ∧ ∀ i s, m'.cell? ⟨k, i, s⟩ = none := fun h hk hne => by
    obtain ⟨hB, cur, hc⟩ := Sy.Own.oneT h hk
    exact ⟨hB, hgone _ cur _ hB hc hne⟩
  have hdis : ∀ {k e e2 s s2 n n2 v v2 xs xs2}, Own w' w.heap.size e s v n xs → Own w' w.heap.size e2 s2 v2 n2 xs2 → blk v = some k → blk v2 = some k → e = e2 := fun h h' hk hk' => by
    obtain ⟨_, cur, hc⟩ := Sy.Own.oneT h hk
    obtain ⟨_, cur2, hc2⟩ := Sy.Own.oneT h' hk'
    rw [hc] at hc2
    injection hc2 with hc2
    injection hc2
  refine ⟨m', cd, co, cm, hsub, ⟨F'.kept, F.sub0.trans hsub, hsub2, fun p v hp e => F.fresh p v hp (by rw [← hlow p (Nat.lt_of_lt_of_le hp F.size)]; exact e), fun b hbm => ⟨(F'.own b hbm).1, (F'.own b hbm).2.1, fun i s => ?_⟩, F.nodup, ⟨?_, ?_⟩, ?_⟩, ?_⟩
  · rw [hlow ⟨b.adr, i, s⟩ (F.lt hbm)]
    exact (F.own b hbm).2.2 i s
  · intro o hom'
    simp only [nowL, List.mem_cons, List.not_mem_nil, or_false] at hom'
    rcases hom' with rfl | rfl | rfl
    · exact hod.base (Nat.zero_le _)
    · exact hoo.base (Nat.zero_le _)
    · exact hom.base (Nat.zero_le _)
  · have e1 : (doneO r ⟨va, vc, da, dc, oa, oc, ma, mc⟩ cd).blk = blk (.slice da r.done.length dc) := rfl
    have e2 : (outO r ⟨va, vc, da, dc, oa, oc, ma, mc⟩ co).blk = blk (.slice oa r.out.length oc) := rfl
    have e3 : (markO r ⟨va, vc, da, dc, oa, oc, ma, mc⟩ cm).blk = blk (.slice ma r.marks.length mc) := rfl
    have n12 : ∀ k, blk (.slice da r.done.length dc) = some k → blk (.slice oa r.out.length oc) = some k → False := fun k a b => absurd (hdis hod hoo a b) (by decide)
    have n13 : ∀ k, blk (.slice da r.done.length dc) = some k → blk (.slice ma r.marks.length mc) = some k → False := fun k a b => absurd (hdis hod hom a b) (by decide)
    have n23 : ∀ k, blk (.slice oa r.out.length oc) = some k → blk (.slice ma r.marks.length mc) = some k → False := fun k a b => absurd (hdis hoo hom a b) (by decide)
    unfold nowL Sy.blks
    simp only [List.filterMap_cons, List.filterMap_nil, e1, e2, e3]
    cases hd : blk (.slice da r.done.length dc) with
    | none =>
      cases hoo' : blk (.slice oa r.out.length oc) with
      | none => cases hmm : blk (.slice ma r.marks.length mc) <;> simp
      | some y =>
        cases hmm : blk (.slice ma r.marks.length mc) with
        | none => simp
        | some z =>
          simp
          rintro rfl
          exact n23 _ hoo' hmm
    | some x =>
      cases hoo' : blk (.slice oa r.out.length oc) with
      | none =>
        cases hmm : blk (.slice ma r.marks.length mc) with
        | none => simp
        | some z =>
          simp
          rintro rfl
          exact n13 _ hd hmm
      | some y =>
        cases hmm : blk (.slice ma r.marks.length mc) with
        | none =>
          simp
          rintro rfl
          exact n12 _ hd hoo'
        | some z =>
          simp
          refine ⟨⟨?_, ?_⟩, ?_⟩
          · rintro rfl
            exact n12 _ hd hoo'
          · rintro rfl
            exact n13 _ hd hmm
          · rintro rfl
            exact n23 _ hoo' hmm
  · intro k hk
    obtain ⟨o, hom', hbk⟩ := Sy.mem_blks.1 hk
    have hk2 : w.heap.size ≤ k ∧ ∀ i s, m'.cell? ⟨k, i, s⟩ = none := by
      simp only [nowL, List.mem_cons, List.not_mem_nil, or_false] at hom'
      rcases hom' with rfl | rfl | rfl
      · exact hty hod hbk (by decide)
      · exact hty hoo hbk (by decide)
      · exact hty hom hbk (by decide)
    refine ⟨.inl (Nat.le_trans F.size hk2.1), fun hm => ?_, hk2.2⟩
    obtain ⟨b, hbm, he⟩ := List.mem_map.1 hm
    have := F.lt hbm
    omega
  · refine ⟨hreg.kind, hreg.inc, hreg.state, hreg.last, nums_T hv hkeep, hreg.cv, ⟨h1.1, fun i hi hi' => ⟨(h1.2 i hi hi').1, ?_⟩⟩, rows_up (R := CellR) (fun _ _ h => h) hco, rows_up (R := MarkR) (fun _ _ h => h) hcm⟩
    obtain ⟨p, q1, q2, q3, q4, q5⟩ := (h1.2 i hi hi').2
    obtain ⟨a2, c2, e2, css2, o2⟩ := h5 i hi hi' hi'
    rw [q1] at e2
    simp [repCs] at e2
    obtain ⟨pa, pc⟩ := p
    simp only at e2 q5
    obtain ⟨rfl, rfl⟩ := e2
    exact ⟨⟨pa, pc⟩, q1, q2, q3, q4.1, q4.2.1, q4.2.2.1, nums_T ⟨css2, o2⟩ hkeep, q4.2.2.2.2⟩
end En
end Go.Proofs.Ytdpmfjbhadapiaa
