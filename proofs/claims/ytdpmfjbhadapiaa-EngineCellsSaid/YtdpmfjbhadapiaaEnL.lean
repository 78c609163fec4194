/- The walk of engine.fire. Conditions: the register is the caller's to write, its list of cells is short. -/
import Derived.Test.YtdpmfjbhadapiaaEnH
import Derived.Test.YtdpmfjbhadapiaaTbP
namespace Go.Proofs.Ytdpmfjbhadapiaa
open Go.RowKit
set_option linter.unusedVariables false
set_option linter.unusedSimpArgs false
namespace En
open Sy (RetV RetM Sub RetE)
open Rg (RowsOf eqT eqF i64_up i64_wrap U8 U64 I64 RegD RegA RegAt regCs DoneD DoneR MarkD MarkR CellD CellR NumR OwnRows OpD opCs)
open Tb (TabD TabAt tabCs fireS FireD OkA)
theorem u64_wrap {a : Int} (h1 : 0 ≤ a) (h2 : a < 18446744073709551616) : IntKind.u64.wrap a = a := by
  rw [IntKind.wrap_u64]
  exact Int.emod_eq_of_lt h1 h2
def FireVc (d : FireD) (m : World) (v : Value) : Prop := ∃ a1 c1 a2 c2, v = .tuple #[.int .i64 d.st, .slice a1 d.vs.length c1, .slice a2 d.cs.length c2, .int .i64 (d.e : Int)] ∧ Nums m a1 d.vs ∧ Rows CellR 4 m a2 d.cs ∧ d.vs.length ≤ c1 ∧ c1 ≤ maxLen
theorem fireMc {w m : World} (hs : Sub m w) {t : TabD} {ta : Option Addr} {tc : Nat} (h : TabAt m t ta tc) (state action party : Int) {va : Option Addr} {vc : Nat} {vars : List Int} (arg : Int) (hv : Ex.Ints m va vars.length vars) (ha : OkA arg) :
    Calls Try.prog 16 #[.agg (tabCs t ta tc).toArray, .int .i64 state, .int .i64 action, .int .i64 party, .slice va vars.length vc, .int .i64 arg] w (RetM m w (FireVc (fireS t state action party vars arg))) :=
  (Tb.fire_any w t ta tc (h.sub hs) state action party arg (hv.sub hs) ha).mono fun e w' ⟨a1, c1, a2, c2, he, hb, h1, h2⟩ => by
    obtain ⟨m', q1, q2, q3, q4⟩ := Sy.retM_of_own hs hb
    refine ⟨_, m', he, hb, q1, q2, q3, a1, c1, a2, c2, rfl, Tb.nums_move h1 q4, Tb.cells_move h2 q4, ?_⟩
    obtain ⟨css, _, a', cap', hv, _, hn, hm, _⟩ := h1
    obtain ⟨_, _, rfl⟩ := Value.slice.inj hv
    exact ⟨hn, hm⟩
/-- cells numbered behind n -/
def numC (n : Nat) (l : List CellD) : List CellD := l.mapIdx fun i c => ⟨n + i + 1, c.target, c.action, c.arg⟩
theorem numC_up {n k : Nat} {l : List CellD} (h : k < l.length) : numC n (l.take (k + 1)) = numC n (l.take k) ++ [⟨n + k + 1, l[k].target, l[k].action, l[k].arg⟩] := by
  unfold numC
  rw [List.take_succ_eq_append_getElem h, List.mapIdx_concat, List.length_take, Nat.min_eq_left (by omega)]
theorem numC_len {n : Nat} {l : List CellD} : (numC n l).length = l.length := by unfold numC; simp
def firedS (r : RegD) (f : FireD) : RegD := { r with state := f.st, vars := f.vs, out := r.out ++ numC r.last f.cs, last := r.last + f.cs.length }
/-- the register and the error behind fire -/
def fireR (t : TabD) (r : RegD) (o : OpD) (party : Int) : RegD × Nat :=
  let f := fireS t r.state o.action party r.vars o.arg
  if f.e ≠ 0 then (r, f.e) else if 8 < r.out.length + f.cs.length ∨ 9223372036854775808 - f.cs.length < r.last then (r, 20) else (firedS r f, 0)
set_option maxRecDepth 20000 in
set_option maxHeartbeats 4000000 in
theorem fire_any (W M : World) {gr : Nat} {r : RegD} {q : RegA} {cd co cm : List (List Value)} (F : Sy.Handx (nowL r q cd co cm) M W gr (regCs r q) 51) (h : NowAt M r q cd co cm) (hl : r.out.length ≤ 1000) (t : TabD) (ta : Option Addr) (tc : Nat) (ht : TabAt M t ta tc) (o : OpD) (ho : OkA o.arg) (party : Int) :
    Calls Try.prog 81 #[.agg (tabCs t ta tc).toArray, .pointer (some ⟨gr, 0, none⟩), .agg (opCs o).toArray, .int .i64 party] W (RetE (nowL r q cd co cm) M W gr 51 (NowE (.int .i64 ((fireR t r o party).2 : Int)) (fireR t r o party).1)) := by
  obtain ⟨va, vc, da, dc, oa, oc, ma, mc⟩ := q
  have hst := Tb.fire_stays (t := t) (state := r.state) (action := o.action) (party := party) (vars := r.vars) (arg := o.arg)
  have hR0 : fireR t r o party = if (fireS t r.state o.action party r.vars o.arg).e ≠ 0 then (r, (fireS t r.state o.action party r.vars o.arg).e) else if 8 < r.out.length + (fireS t r.state o.action party r.vars o.arg).cs.length ∨ 9223372036854775808 - (fireS t r.state o.action party r.vars o.arg).cs.length < r.last then (r, 20) else (firedS r (fireS t r.state o.action party r.vars o.arg), 0) := rfl
  have hlast := h.last
  unfold U64 at hlast
  refine Sy.enter Try.func81 rfl Try.ntmps81 rfl ?_; intro ac T; simp only [Sy.enum, Nat.zero_add, Nat.reduceAdd] at T
  repeat (first
    | (((with_reducible refine Sy.is_box ?_); (refine Sy.st_boxAgg T F (h := ?_)); clear T F; intro ac g w T F))
    | (((with_reducible refine Sy.is_op ?_); refine Sy.st_pure T (h := ?_); clear T; intro ac T))
    | (with_reducible refine wpList_nil ?_)
    | (with_reducible refine wp_region_lit ?_)
    | ((with_reducible refine wp_seq_k ?_); intro _ _)
    | (go_at_K; go_step)
    | (simp only [Exit.then, Exit.inBlock, ↓reduceIte, Nat.reduceEqDiff])
    | ((with_reducible refine Sy.is_drawn (id := 1) ?_); refine Sy.sx_region F [] (.t 0 (.t 1 (.t 2 (.t 3 (.t 4 (.t 5 (.t 6 (.t 7 (.t 8 (.t 9 (.t 10 (.t 11 (.t 12 (.t 13 (.h 14 (.t 15 (.t 16 (.t 17 (.t 18 (.t 19 (.t 20 (.t 21 (.t 22 (.t 23 .e)))))))))))))))))))))))) [] (by kernel_rfl) ?_; (clear F; intro w F))
    | ((refine Sy.sx_plain (h := ?_)); (first
    | ((with_reducible refine Sy.ux_load ?_); (first
    | refine Sy.sx_val (Sy.rx_loadOne T F) T rfl ?_
    | refine Sy.sx_val (Sy.rx_loadAll T F) T rfl ?_); clear T; intro ac T)
    | (refine Sy.sx_pure T (h := ?_); clear T; intro ac T)); show Sy.wpUx _ _ _ _ _ _ _ _ _))
  have G := fireMc F.sub ht r.state o.action party (vc := vc) o.arg (Ex.ints_of_nums h.vars) ho; refine Sy.sx_callM0 rfl T F (hc := G) (h := ?_); (clear T F G; intro v m ac w hR hS T F)
  generalize fireS t r.state o.action party r.vars o.arg = f at *
  generalize fireR t r o party = fr at *
  obtain ⟨a1, c1, a2, c2, rfl, hn, hcs, hc1, hc1m⟩ := hR
  replace h := h.sub hS
  by_cases he : f.e = 0
  · have t1 := eqT (a := (f.e : Int)) (b := 0) (by omega)
    rw [if_neg (by omega)] at hR0
    have hc4 : f.cs.length ≤ 4 := by
      rcases hst with hst | hst
      · exact absurd he hst.1
      · exact hst.2.2.2.2.1
    have t2 : IntKind.i64.wrap ((r.out.length : Int) + (f.cs.length : Int)) = ((r.out.length + f.cs.length : Nat) : Int) := by rw [i64_wrap (by omega) (by omega)]; omega
    by_cases h8 : 8 < r.out.length + f.cs.length
    · have t3 : decide (((r.out.length + f.cs.length : Nat) : Int) > 8) = true := decide_eq_true (by omega)
      rw [if_pos (.inl h8)] at hR0
      subst hR0
      repeat (first
    | (((with_reducible refine Sy.is_load ?_); (refine Sy.st_loadOne T F (h := ?_)); clear T; intro ac T))
    | (((with_reducible refine Sy.is_op ?_); refine Sy.st_pure T (h := ?_); clear T; intro ac T))
    | ((with_reducible refine Sy.is_cond ?_); (first
    | refine Sy.st_true T (h := ?_)
    | refine Sy.st_false T (h := ?_)))
    | (with_reducible refine wpList_nil ?_)
    | (with_reducible refine wp_region_lit ?_)
    | (with_reducible refine wp_block ?_)
    | (with_reducible refine wp_skip ?_)
    | (with_reducible refine wp_ret ?_)
    | ((with_reducible refine wp_seq_k ?_); intro _ _)
    | (go_at_K; go_step)
    | (simp only [Exit.then, Exit.inBlock, ↓reduceIte, Nat.reduceEqDiff])
    | ((refine Sy.sx_plain (h := ?_)); ((refine Sy.sx_pure T (h := ?_); clear T; intro ac T)); show Sy.wpUx _ _ _ _ _ _ _ _ _)
    | (with_reducible refine Sy.sx_nil ?_)
    | (with_reducible refine Sy.sx_end ?_))
      ((try simp only [Exit.inBlock, Exit.then]); refine Sy.st_ret1 T F rfl (by repeat (first | exact Sy.ResV.nil | apply Sy.ResV.tmp rfl | apply Sy.ResV.row rfl rfl rfl (by repeat (first | exact Sy.Take.here | apply Sy.Take.there)) (by rfl) | apply Sy.ResV.one rfl rfl rfl (by repeat (first | exact Sy.Take.here | apply Sy.Take.there)) (by rfl))) ?_)
      exact F.retE (by repeat (first | exact Sy.Take.here | apply Sy.Take.there)) ⟨rfl, ⟨va, vc, da, dc, oa, oc, ma, mc⟩, cd, co, cm, rfl, rfl, h⟩
    · have t3 : decide (((r.out.length + f.cs.length : Nat) : Int) > 8) = false := decide_eq_false (by omega)
      have t4 : IntKind.u64.wrap (f.cs.length : Int) = (f.cs.length : Int) := u64_wrap (by omega) (by omega)
      have t5 : IntKind.u64.wrap (9223372036854775808 - (f.cs.length : Int)) = ((9223372036854775808 - f.cs.length : Nat) : Int) := by rw [u64_wrap (by omega) (by omega)]; omega
      by_cases h9 : 9223372036854775808 - f.cs.length < r.last
      · have t6 : decide ((r.last : Int) > ((9223372036854775808 - f.cs.length : Nat) : Int)) = true := decide_eq_true (by omega)
        rw [if_pos (.inr h9)] at hR0
        subst hR0
        repeat (first
    | (((with_reducible refine Sy.is_load ?_); (refine Sy.st_loadOne T F (h := ?_)); clear T; intro ac T))
    | (((with_reducible refine Sy.is_op ?_); refine Sy.st_pure T (h := ?_); clear T; intro ac T))
    | ((with_reducible refine Sy.is_cond ?_); (first
    | refine Sy.st_true T (h := ?_)
    | refine Sy.st_false T (h := ?_)))
    | (with_reducible refine wpList_nil ?_)
    | (with_reducible refine wp_region_lit ?_)
    | (with_reducible refine wp_block ?_)
    | (with_reducible refine wp_ret ?_)
    | ((with_reducible refine wp_seq_k ?_); intro _ _)
    | (go_at_K; go_step)
    | (simp only [Exit.then, Exit.inBlock, ↓reduceIte, Nat.reduceEqDiff])
    | ((refine Sy.sx_plain (h := ?_)); ((refine Sy.sx_pure T (h := ?_); clear T; intro ac T)); show Sy.wpUx _ _ _ _ _ _ _ _ _)
    | (with_reducible refine Sy.sx_nil ?_)
    | (with_reducible refine Sy.sx_end ?_))
        ((try simp only [Exit.inBlock, Exit.then]); refine Sy.st_ret1 T F rfl (by repeat (first | exact Sy.ResV.nil | apply Sy.ResV.tmp rfl | apply Sy.ResV.row rfl rfl rfl (by repeat (first | exact Sy.Take.here | apply Sy.Take.there)) (by rfl) | apply Sy.ResV.one rfl rfl rfl (by repeat (first | exact Sy.Take.here | apply Sy.Take.there)) (by rfl))) ?_)
        exact F.retE (by repeat (first | exact Sy.Take.here | apply Sy.Take.there)) ⟨rfl, ⟨va, vc, da, dc, oa, oc, ma, mc⟩, cd, co, cm, rfl, rfl, h⟩
      · have t6 : decide ((r.last : Int) > ((9223372036854775808 - f.cs.length : Nat) : Int)) = false := decide_eq_false (by omega)
        rw [if_neg (by omega)] at hR0
        subst hR0
        repeat (first
    | (((with_reducible refine Sy.is_load ?_); (refine Sy.st_loadOne T F (h := ?_)); clear T; intro ac T))
    | (((with_reducible refine Sy.is_store ?_); ((refine Sy.st_storeOne T F (h := ?_); conv => whnf)); clear T F; intro ac w T F))
    | (((with_reducible refine Sy.is_op ?_); refine Sy.st_pure T (h := ?_); clear T; intro ac T))
    | ((with_reducible refine Sy.is_cond ?_); (refine Sy.st_false T (h := ?_)))
    | (with_reducible refine wpList_nil ?_)
    | (with_reducible refine wp_region_lit ?_)
    | (with_reducible refine wp_block ?_)
    | (with_reducible refine wp_skip ?_)
    | ((with_reducible refine wp_seq_k ?_); intro _ _)
    | (go_at_K; go_step)
    | (simp only [Exit.then, Exit.inBlock, ↓reduceIte, Nat.reduceEqDiff])
    | ((refine Sy.sx_plain (h := ?_)); ((refine Sy.sx_pure T (h := ?_); clear T; intro ac T)); show Sy.wpUx _ _ _ _ _ _ _ _ _)
    | (with_reducible refine Sy.sx_nil ?_)
    | (with_reducible refine Sy.sx_end ?_))
        refine wp_loop_ghost_k (fun n ac w' => ∃ k oa' oc' ck, n = f.cs.length - k ∧ k ≤ f.cs.length ∧ RowsOf CellR 4 m ck (r.out ++ numC r.last (f.cs.take k)) ∧ Sy.Tm ac 95 [(1, .pointer (some ⟨gr, 0, none⟩)), (66, .slice a2 f.cs.length c2), (67, .int .i64 (f.cs.length : Int)), (68, .int .i64 (k : Int))] ∧ Sy.MemE (Sy.OwL [doneO r ⟨va, vc, da, dc, oa, oc, ma, mc⟩ cd, ⟨47, 4, .slice oa' (r.out.length + k) oc', r.out.length + k, ck.flatten⟩, markO r ⟨va, vc, da, dc, oa, oc, ma, mc⟩ cm]) ⟨W, Sy.wr gr (nowL r ⟨va, vc, da, dc, oa, oc, ma, mc⟩ cd co cm), M⟩ m [⟨gr, [.int .u8 (r.kind : Int), .int .u64 (r.inc : Int), .int .i64 f.st, .slice a1 f.vs.length c1, .slice da r.done.length dc, .slice oa' (r.out.length + k) oc', .int .u64 ((r.last + k : Nat) : Int), .slice ma r.marks.length mc], 51⟩] w') f.cs.length ?_ ?_
        · exact ⟨0, oa, oc, co, rfl, Nat.zero_le _, by simpa [numC] using h.out, (T.part (by repeat (first | exact Sy.Part.nil | apply Sy.Part.cons rfl))), (F.sel (by repeat (first | exact Sy.Sel.nil | apply Sy.Sel.cons (by repeat (first | exact Sy.Take.here | apply Sy.Take.there)))))⟩
        intro n ac w hI J K hJ hK
        obtain ⟨k, oa', oc', ck, rfl, hk, hrk, T, F⟩ := hI
        by_cases hlt : k < f.cs.length
        · have v1 : decide ((k : Int) < (f.cs.length : Int)) = true := decide_eq_true (by omega)
          have v2 := i64_up hlt hcs.1
          have v3 : IntKind.u64.wrap (((r.last + k : Nat) : Int) + 1) = ((r.last + k + 1 : Nat) : Int) := by rw [u64_wrap (by omega) (by omega)]; omega
          obtain ⟨b2, o2, row, ha2, hrl, hat, hrow⟩ := rows_get hcs hlt
          obtain ⟨rfl, hu1, hu2, hu3, hu4⟩ := hrow
          subst ha2
          repeat (first
    | (((with_reducible refine Sy.is_load ?_); (first
    | refine Sy.st_loadOne T F (h := ?_)
    | refine Sy.st_oldAgg T F (h := ?_)); clear T; intro ac T))
    | (((with_reducible refine Sy.is_store ?_); (first
    | refine Sy.st_storeAll T F (h := ?_)
    | (refine Sy.st_storeOne T F (h := ?_); conv => whnf)); clear T F; intro ac w T F))
    | (((with_reducible refine Sy.is_alloc ?_); refine Sy.st_alloc T F (h := ?_); clear T F; intro ac g w T F))
    | (((with_reducible refine Sy.is_op ?_); refine Sy.st_pure T (h := ?_); clear T; intro ac T))
    | ((with_reducible refine Sy.is_cond ?_); (refine Sy.st_true T (h := ?_)))
    | (with_reducible refine wpList_nil ?_)
    | (with_reducible refine wp_region_lit ?_)
    | (with_reducible refine wp_block ?_)
    | (with_reducible refine wp_skip ?_)
    | ((with_reducible refine wp_seq_k ?_); intro _ _)
    | (go_at_K; go_step)
    | (simp only [Exit.then, Exit.inBlock, ↓reduceIte, Nat.reduceEqDiff]))
          replace F := (F.ownPerm (perm_out _ _ _)).toA
          refine Sy.sx_region F ((blk (.slice oa' (r.out.length + k) oc')).toList) (.t 0 (.t 1 (.t 2 (.t 3 (.t 4 (.t 5 (.h 6 (.h 7 .e)))))))) [8, 9, 10] (by kernel_rfl) ?_; (clear F; intro w F)
          repeat (((refine Sy.sx_plain (h := ?_)); ((refine Sy.sx_pure T (h := ?_); clear T; intro ac T)); show Sy.wpUx _ _ _ _ _ _ _ _ _))
          refine Sy.sx_plain rfl rfl (Sy.sx_val (Sy.rx_loadOne T F (hX := (by intro hm; exact (F.loose _ (.inr (Option.mem_toList.1 hm))).2.1 (by simp)))) T rfl ?_); (clear T; intro ac T); show Sy.wpUx _ _ _ _ _ _ _ _ _
          skip
          refine Sy.sx_plain rfl rfl (Sy.sx_val (Sy.rx_loadAll T F (hX := (by intro hm; exact (F.loose _ (.inr (Option.mem_toList.1 hm))).2.1 (by simp)))) T rfl ?_); (clear T; intro ac T); show Sy.wpUx _ _ _ _ _ _ _ _ _
          skip
          refine Sy.sx_buildSliceR rfl T F (h := ?_); (conv => whnf); (repeat (refine ⟨by first | exact rfl | exact ⟨rfl, rfl⟩, ?_⟩; (conv => whnf))); clear T F; intro ac gn w T F
          refine Sy.sx_appendC rfl T F (fun q hq => Option.mem_toList.2 hq) (k2 := 1) (news := [.int .u64 ((r.last + k + 1 : Nat) : Int), .int .u8 (f.cs[k].target : Int), .int .i64 f.cs[k].action, .int .i64 f.cs[k].arg]) (Sy.cells_own (F.get Sy.Take.here)) rfl (by intro u hu; simp at hu; rcases hu with rfl | rfl | rfl | rfl <;> rfl) (hbytes := ?_) (h := ?_)
          · show (r.out.length + k + 1) * 32 ≤ 140737488355328
            omega
          clear T F; intro ad' cap' X' ac w hX' T F
          repeat (first
    | (((with_reducible refine Sy.is_store ?_); ((refine Sy.st_storeOne T F (h := ?_); conv => whnf)); clear T F; intro ac w T F))
    | (((with_reducible refine Sy.is_op ?_); refine Sy.st_pure T (h := ?_); clear T; intro ac T))
    | ((with_reducible refine Sy.atK (hK _ _ ?_)))
    | (with_reducible refine wpList_nil ?_)
    | (with_reducible refine wp_region_lit ?_)
    | (go_at_K; go_step)
    | (simp only [Exit.then, Exit.inBlock, ↓reduceIte, Nat.reduceEqDiff])
    | (with_reducible refine Sy.sx_nil ?_)
    | (with_reducible refine Sy.sx_end ?_)
    | (with_reducible refine Sy.sx_tail rfl rfl (fun K hK => ?_)))
          have hrow' : CellR m [.int .u64 ((r.last + k + 1 : Nat) : Int), .int .u8 (f.cs[k].target : Int), .int .i64 f.cs[k].action, .int .i64 f.cs[k].arg] ⟨r.last + k + 1, f.cs[k].target, f.cs[k].action, f.cs[k].arg⟩ := ⟨rfl, by unfold U64; simp only; omega, hu2, hu3, hu4⟩
          have hrk2 := rows_app hrk (rows_one rfl hrow')
          rw [List.append_assoc, ← numC_up hlt] at hrk2
          have e1 : ck.flatten ++ [Value.int .u64 ((r.last + k + 1 : Nat) : Int), Value.int .u8 (f.cs[k].target : Int), Value.int .i64 f.cs[k].action, Value.int .i64 f.cs[k].arg] = (ck ++ [[Value.int .u64 ((r.last + k + 1 : Nat) : Int), Value.int .u8 (f.cs[k].target : Int), Value.int .i64 f.cs[k].action, Value.int .i64 f.cs[k].arg]]).flatten := by simp
          rw [e1] at F
          replace F := F.ofA.ownPerm (perm_out _ _ _)
          exact Sy.handed hJ (k := f.cs.length - (k + 1)) (by omega) ⟨k + 1, ad', cap', _, rfl, by omega, hrk2, (T.part (by repeat (first | exact Sy.Part.nil | apply Sy.Part.cons rfl))), (F.sel (by repeat (first | exact Sy.Sel.nil | apply Sy.Sel.cons (by repeat (first | exact Sy.Take.here | apply Sy.Take.there)))))⟩
        · obtain rfl : k = f.cs.length := by omega
          have v1 : decide ((f.cs.length : Int) < (f.cs.length : Int)) = false := decide_eq_false (by omega)
          repeat (first
    | (((with_reducible refine Sy.is_op ?_); refine Sy.st_pure T (h := ?_); clear T; intro ac T))
    | ((with_reducible refine Sy.is_cond ?_); (refine Sy.st_false T (h := ?_)))
    | (with_reducible refine wpList_nil ?_)
    | (with_reducible refine wp_region_lit ?_)
    | (with_reducible refine wp_exit ?_)
    | (with_reducible refine wp_ret ?_)
    | ((with_reducible refine wp_seq_k ?_); intro _ _)
    | (go_at_K; go_step)
    | (simp only [Exit.then, Exit.inBlock, ↓reduceIte, Nat.reduceEqDiff]))
          ((try simp only [Exit.inBlock, Exit.then]); refine Sy.st_ret1 T F rfl (by repeat (first | exact Sy.ResV.nil | apply Sy.ResV.tmp rfl | apply Sy.ResV.row rfl rfl rfl (by repeat (first | exact Sy.Take.here | apply Sy.Take.there)) (by rfl) | apply Sy.ResV.one rfl rfl rfl (by repeat (first | exact Sy.Take.here | apply Sy.Take.there)) (by rfl))) ?_)
          rw [List.take_length] at hrk
          rcases hst with hst | ⟨_, hs1, hs2, _⟩
          · exact absurd he hst.1
          have hts := ht.states
          unfold I64 at hts
          refine F.retE (by repeat (first | exact Sy.Take.here | apply Sy.Take.there)) ⟨by simp, ⟨a1, c1, da, dc, oa', oc', ma, mc⟩, cd, ck, cm, ?_, ?_, ?_⟩
          · simp [regCs, firedS, numC_len]
          · simp [nowL, doneO, outO, markO, firedS, numC_len]
          · exact ⟨h.kind, h.inc, by unfold I64; simp only [firedS]; omega, by unfold U64; simp only [firedS]; omega, hn, ⟨hc1, hc1m⟩, h.done, hrk, h.marks⟩
  · have t1 := eqF (a := (f.e : Int)) (b := 0) (by omega)
    rw [if_pos he] at hR0
    subst hR0
    repeat (first
    | (((with_reducible refine Sy.is_op ?_); refine Sy.st_pure T (h := ?_); clear T; intro ac T))
    | ((with_reducible refine Sy.is_cond ?_); (refine Sy.st_true T (h := ?_)))
    | (with_reducible refine wpList_nil ?_)
    | (with_reducible refine wp_region_lit ?_)
    | (with_reducible refine wp_block ?_)
    | (with_reducible refine wp_ret ?_)
    | ((with_reducible refine wp_seq_k ?_); intro _ _)
    | (go_at_K; go_step)
    | (simp only [Exit.then, Exit.inBlock, ↓reduceIte, Nat.reduceEqDiff])
    | ((refine Sy.sx_plain (h := ?_)); ((refine Sy.sx_pure T (h := ?_); clear T; intro ac T)); show Sy.wpUx _ _ _ _ _ _ _ _ _)
    | (with_reducible refine Sy.sx_nil ?_)
    | (with_reducible refine Sy.sx_end ?_))
    ((try simp only [Exit.inBlock, Exit.then]); refine Sy.st_ret1 T F rfl (by repeat (first | exact Sy.ResV.nil | apply Sy.ResV.tmp rfl | apply Sy.ResV.row rfl rfl rfl (by repeat (first | exact Sy.Take.here | apply Sy.Take.there)) (by rfl) | apply Sy.ResV.one rfl rfl rfl (by repeat (first | exact Sy.Take.here | apply Sy.Take.there)) (by rfl))) ?_)
    exact F.retE (by repeat (first | exact Sy.Take.here | apply Sy.Take.there)) ⟨rfl, ⟨va, vc, da, dc, oa, oc, ma, mc⟩, cd, co, cm, rfl, rfl, h⟩
end En
end Go.Proofs.Ytdpmfjbhadapiaa
