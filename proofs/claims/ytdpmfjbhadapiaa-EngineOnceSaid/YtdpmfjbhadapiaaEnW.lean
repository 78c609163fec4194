/- The walk of the law EngineOnce. Conditions: what is handed in can be read. -/
import Derived.Test.YtdpmfjbhadapiaaEnZ
import Derived.Test.YtdpmfjbhadapiaaRegD
namespace Go.Proofs.Ytdpmfjbhadapiaa
open Go.RowKit
set_option linter.unusedVariables false
set_option linter.unusedSimpArgs false
namespace En
open Sy (RetV RetM Sub)
open Rg (eqT eqF U8 U64 I64 RegD RegA RegAt regCs DoneD MarkD CellD OpD OpOk OpR opCs RepD RepA RepAt repCs greatS zeroReg zeroRegA zeroReg_at May06 MarkR)
open Tb (TabD TabAt tabCs)
def eatO (o : OpD) : OpD := { o with kind := 5 }
theorem eat_ok {o : OpD} (h : OpOk o) : OpOk (eatO o) := ⟨by unfold eatO U8; simp, h.key, h.client, h.seq, h.action, h.party, h.arg, h.source, h.inc, h.cell⟩
set_option maxRecDepth 20000 in
set_option maxHeartbeats 8000000 in
theorem once_any (w0 : World) (t : TabD) (ta : Option Addr) (tc : Nat) (ht : TabAt w0 t ta tc) (r : RegD) (p : RegA) (h : RegAt w0 r p) (o : OpD) (ho : OpOk o) (la : Option Addr) (lc : Nat) (l : List OpD) (hl : Rows OpR 10 w0 la l) (count : Nat) (hc : U64 count) :
    Calls Try.prog 8 #[.agg (tabCs t ta tc).toArray, .agg (regCs r p).toArray, .agg (opCs o).toArray, .slice la l.length lc, .int .u64 (count : Int)] w0 (RetV w0 (.bool true)) := by
  have F := Sy.Mem.start (Sub.refl w0)
  have hk0 := eat_ok ho
  refine Sy.enter Try.func8 rfl Try.ntmps8 rfl ?_; intro ac T; simp only [Sy.enum, Nat.zero_add, Nat.reduceAdd] at T
  repeat (first
    | (((with_reducible refine Sy.is_load ?_); (refine Sy.st_loadAll T F (h := ?_)); clear T; intro ac T))
    | (((with_reducible refine Sy.is_store ?_); ((refine Sy.st_storeOne T F (h := ?_); conv => whnf)); clear T F; intro ac w T F))
    | (((with_reducible refine Sy.is_box ?_); (refine Sy.st_boxAgg T F (h := ?_)); clear T F; intro ac g w T F))
    | (((with_reducible refine Sy.is_op ?_); refine Sy.st_pure T (h := ?_); clear T; intro ac T))
    | (with_reducible refine wpList_nil ?_)
    | (with_reducible refine wp_region_lit ?_)
    | ((with_reducible refine wp_seq_k ?_); intro _ _)
    | (go_at_K; go_step)
    | (simp only [Exit.then, Exit.inBlock, ↓reduceIte, Nat.reduceEqDiff]))
  refine Sy.st_call (us := []) (ks := []) T rfl rfl rfl rfl (great07_any _ t ta tc (ht.sub F.sub) r p (h.sub F.sub)) ?_
  rintro e w1 ⟨b, rfl, bel, hgr⟩
  refine ⟨_, rfl, fun ac' T' => ?_⟩
  have F1 := F.below bel
  clear F T bel
  have F := F1
  have T := T'
  clear F1 T'
  cases b with
  | true =>
    repeat (first
    | (((with_reducible refine Sy.is_guard ?_); ((refine Sy.st_unguard T (h := ?_); clear T; intro ac T))))
    | (((with_reducible refine Sy.is_op ?_); refine Sy.st_pure T (h := ?_); clear T; intro ac T))
    | ((with_reducible refine Sy.is_cond ?_); (refine Sy.st_true T (h := ?_)))
    | (with_reducible refine wpList_nil ?_)
    | (with_reducible refine wp_region_lit ?_)
    | ((with_reducible refine wp_seq_k ?_); intro _ _)
    | (go_at_K; go_step)
    | (simp only [Exit.then, Exit.inBlock, ↓reduceIte, Nat.reduceEqDiff]))
    refine Sy.st_callV0 T F (hc := awake_any _) (h := ?_); (clear T F; intro ac w T F)
    repeat (first
    | (((with_reducible refine Sy.is_op ?_); refine Sy.st_pure T (h := ?_); clear T; intro ac T))
    | (with_reducible refine wpList_nil ?_)
    | (with_reducible refine wp_ret ?_)
    | (go_at_K; go_step)
    | (simp only [Exit.then, Exit.inBlock, ↓reduceIte, Nat.reduceEqDiff]))
    ((try simp only [Exit.inBlock, Exit.then]); refine Sy.st_ret1 T F rfl (by repeat (first | exact Sy.ResV.nil | apply Sy.ResV.tmp rfl | apply Sy.ResV.row rfl rfl rfl (by repeat (first | exact Sy.Take.here | apply Sy.Take.there)) (by rfl) | apply Sy.ResV.one rfl rfl rfl (by repeat (first | exact Sy.Take.here | apply Sy.Take.there)) (by rfl))) ?_)
    exact F.retV _
  | false =>
  have hs := Rg.short_of (hgr rfl)
  cases q1 : decide ((l.length : Int) > 40) with
  | true =>
    repeat (first
    | (((with_reducible refine Sy.is_guard ?_); (first
    | refine Sy.st_guard T (h := ?_)
    | (refine Sy.st_unguard T (h := ?_); clear T; intro ac T))))
    | (((with_reducible refine Sy.is_op ?_); refine Sy.st_pure T (h := ?_); clear T; intro ac T))
    | ((with_reducible refine Sy.is_cond ?_); (refine Sy.st_true T (h := ?_)))
    | (with_reducible refine wpList_nil ?_)
    | (with_reducible refine wp_region_lit ?_)
    | ((with_reducible refine wp_seq_k ?_); intro _ _)
    | (go_at_K; go_step)
    | (simp only [Exit.then, Exit.inBlock, ↓reduceIte, Nat.reduceEqDiff]))
    refine Sy.st_callV0 T F (hc := awake_any _) (h := ?_); (clear T F; intro ac w T F)
    repeat (first
    | (((with_reducible refine Sy.is_op ?_); refine Sy.st_pure T (h := ?_); clear T; intro ac T))
    | (with_reducible refine wpList_nil ?_)
    | (with_reducible refine wp_ret ?_)
    | (go_at_K; go_step)
    | (simp only [Exit.then, Exit.inBlock, ↓reduceIte, Nat.reduceEqDiff]))
    ((try simp only [Exit.inBlock, Exit.then]); refine Sy.st_ret1 T F rfl (by repeat (first | exact Sy.ResV.nil | apply Sy.ResV.tmp rfl | apply Sy.ResV.row rfl rfl rfl (by repeat (first | exact Sy.Take.here | apply Sy.Take.there)) (by rfl) | apply Sy.ResV.one rfl rfl rfl (by repeat (first | exact Sy.Take.here | apply Sy.Take.there)) (by rfl))) ?_)
    exact F.retV _
  | false =>
  have hll := of_decide_eq_false q1
  by_cases k1 : r.kind = 1
  case neg =>
    have v1 := eqF (a := (r.kind : Int)) (b := 1) (by omega)
    repeat (first
    | (((with_reducible refine Sy.is_guard ?_); (first
    | refine Sy.st_guard T (h := ?_)
    | (refine Sy.st_unguard T (h := ?_); clear T; intro ac T))))
    | (((with_reducible refine Sy.is_load ?_); (refine Sy.st_loadOne T F (h := ?_)); clear T; intro ac T))
    | (((with_reducible refine Sy.is_op ?_); refine Sy.st_pure T (h := ?_); clear T; intro ac T))
    | ((with_reducible refine Sy.is_cond ?_); (refine Sy.st_true T (h := ?_)))
    | (with_reducible refine wpList_nil ?_)
    | (with_reducible refine wp_region_lit ?_)
    | ((with_reducible refine wp_seq_k ?_); intro _ _)
    | (go_at_K; go_step)
    | (simp only [Exit.then, Exit.inBlock, ↓reduceIte, Nat.reduceEqDiff]))
    refine Sy.st_callV0 T F (hc := awake_any _) (h := ?_); (clear T F; intro ac w T F)
    repeat (first
    | (((with_reducible refine Sy.is_op ?_); refine Sy.st_pure T (h := ?_); clear T; intro ac T))
    | (with_reducible refine wpList_nil ?_)
    | (with_reducible refine wp_ret ?_)
    | (go_at_K; go_step)
    | (simp only [Exit.then, Exit.inBlock, ↓reduceIte, Nat.reduceEqDiff]))
    ((try simp only [Exit.inBlock, Exit.then]); refine Sy.st_ret1 T F rfl (by repeat (first | exact Sy.ResV.nil | apply Sy.ResV.tmp rfl | apply Sy.ResV.row rfl rfl rfl (by repeat (first | exact Sy.Take.here | apply Sy.Take.there)) (by rfl) | apply Sy.ResV.one rfl rfl rfl (by repeat (first | exact Sy.Take.here | apply Sy.Take.there)) (by rfl))) ?_)
    exact F.retV _
  have v1 := eqT (a := (r.kind : Int)) (b := 1) (by omega)
  repeat (first
    | (((with_reducible refine Sy.is_guard ?_); (refine Sy.st_guard T (h := ?_))))
    | (((with_reducible refine Sy.is_load ?_); (first
    | refine Sy.st_loadOne T F (h := ?_)
    | refine Sy.st_loadAll T F (h := ?_)); clear T; intro ac T))
    | (((with_reducible refine Sy.is_op ?_); refine Sy.st_pure T (h := ?_); clear T; intro ac T)))
  by_cases hRt : Right07 t r (eatO o) count
  case neg =>
    have G := right_any _ t ta tc (ht.sub F.sub) r p (h.sub F.sub) hs (eatO o) count false ⟨fun k => (by cases k), fun k => absurd k hRt⟩; refine Sy.st_callV0 T F (hc := G) (h := ?_); (clear T F G; intro ac w T F)
    repeat (first
    | (((with_reducible refine Sy.is_guard ?_); (first
    | refine Sy.st_guard T (h := ?_)
    | (refine Sy.st_unguard T (h := ?_); clear T; intro ac T))))
    | (((with_reducible refine Sy.is_op ?_); refine Sy.st_pure T (h := ?_); clear T; intro ac T))
    | ((with_reducible refine Sy.is_cond ?_); (refine Sy.st_true T (h := ?_)))
    | (with_reducible refine wpList_nil ?_)
    | (with_reducible refine wp_region_lit ?_)
    | ((with_reducible refine wp_seq_k ?_); intro _ _)
    | (go_at_K; go_step)
    | (simp only [Exit.then, Exit.inBlock, ↓reduceIte, Nat.reduceEqDiff]))
    refine Sy.st_callV0 T F (hc := awake_any _) (h := ?_); (clear T F; intro ac w T F)
    repeat (first
    | (((with_reducible refine Sy.is_op ?_); refine Sy.st_pure T (h := ?_); clear T; intro ac T))
    | (with_reducible refine wpList_nil ?_)
    | (with_reducible refine wp_ret ?_)
    | (go_at_K; go_step)
    | (simp only [Exit.then, Exit.inBlock, ↓reduceIte, Nat.reduceEqDiff]))
    ((try simp only [Exit.inBlock, Exit.then]); refine Sy.st_ret1 T F rfl (by repeat (first | exact Sy.ResV.nil | apply Sy.ResV.tmp rfl | apply Sy.ResV.row rfl rfl rfl (by repeat (first | exact Sy.Take.here | apply Sy.Take.there)) (by rfl) | apply Sy.ResV.one rfl rfl rfl (by repeat (first | exact Sy.Take.here | apply Sy.Take.there)) (by rfl))) ?_)
    exact F.retV _
  have G := right_any _ t ta tc (ht.sub F.sub) r p (h.sub F.sub) hs (eatO o) count true ⟨fun _ => hRt, fun _ => rfl⟩; refine Sy.st_callV0 T F (hc := G) (h := ?_); (clear T F G; intro ac w T F)
  obtain ⟨hmo, hpg, htm, c0⟩ := right_parts hRt
  obtain ⟨n, hn⟩ := tab_nat htm
  cases q2 : decide ((count : Int) > 1152921504606846976) with
  | true =>
    repeat (first
    | (((with_reducible refine Sy.is_guard ?_); (refine Sy.st_guard T (h := ?_))))
    | (((with_reducible refine Sy.is_op ?_); refine Sy.st_pure T (h := ?_); clear T; intro ac T))
    | ((with_reducible refine Sy.is_cond ?_); (refine Sy.st_true T (h := ?_)))
    | (with_reducible refine wpList_nil ?_)
    | (with_reducible refine wp_region_lit ?_)
    | ((with_reducible refine wp_seq_k ?_); intro _ _)
    | (go_at_K; go_step)
    | (simp only [Exit.then, Exit.inBlock, ↓reduceIte, Nat.reduceEqDiff]))
    refine Sy.st_callV0 T F (hc := awake_any _) (h := ?_); (clear T F; intro ac w T F)
    repeat (first
    | (((with_reducible refine Sy.is_op ?_); refine Sy.st_pure T (h := ?_); clear T; intro ac T))
    | (with_reducible refine wpList_nil ?_)
    | (with_reducible refine wp_ret ?_)
    | (go_at_K; go_step)
    | (simp only [Exit.then, Exit.inBlock, ↓reduceIte, Nat.reduceEqDiff]))
    ((try simp only [Exit.inBlock, Exit.then]); refine Sy.st_ret1 T F rfl (by repeat (first | exact Sy.ResV.nil | apply Sy.ResV.tmp rfl | apply Sy.ResV.row rfl rfl rfl (by repeat (first | exact Sy.Take.here | apply Sy.Take.there)) (by rfl) | apply Sy.ResV.one rfl rfl rfl (by repeat (first | exact Sy.Take.here | apply Sy.Take.there)) (by rfl))) ?_)
    exact F.retV _
  | false =>
  have hcnt := of_decide_eq_false q2
  have e00 : ((0 : Int) == 0) = true := rfl
  have e14 : ((14 : Int) == 14) = true := rfl
  have hcl : o.client = 0 := by
    have h4 := hmo.2.2.2.2.2.2.2.2.2.2.1
    unfold eatO at h4
    simp only at h4
    omega
  have hst := once_first (t := t) (count := count) (n := n) hpg (o := eatO o) rfl hcl k1
  have hpx := apply_pg htm hpg (eatO o) hmo count n c0 hn
  repeat (first
    | (((with_reducible refine Sy.is_guard ?_); (refine Sy.st_guard T (h := ?_))))
    | (((with_reducible refine Sy.is_load ?_); (refine Sy.st_loadAll T F (h := ?_)); clear T; intro ac T))
    | (((with_reducible refine Sy.is_op ?_); refine Sy.st_pure T (h := ?_); clear T; intro ac T))
    | ((with_reducible refine Sy.is_cond ?_); (refine Sy.st_false T (h := ?_)))
    | (with_reducible refine wpList_nil ?_)
    | (with_reducible refine wp_region_lit ?_)
    | (with_reducible refine wp_skip ?_)
    | ((with_reducible refine wp_seq_k ?_); intro _ _)
    | (go_at_K; go_step)
    | (simp only [Exit.then, Exit.inBlock, ↓reduceIte, Nat.reduceEqDiff]))
  have G := apply_any _ _ F.sub t ta tc ht r p h (eatO o) count n (good_of hpg hmo hk0 htm c0 hc h.last hn); refine Sy.st_callM0 T F (hc := G) (h := ?_); (clear T F G; intro v m ac w hR hS T F)
  generalize applyR t r (eatO o) count n = A at *
  obtain ⟨x, y⟩ := A
  obtain ⟨q, ax, rfl, hx, hxr⟩ := hR
  replace hx : RegAt m x q := hx
  replace hst : settledS x o.source o.inc o.cell = true := hst
  replace hpx : PG t x := hpx
  clear hxr
  repeat (first
    | (((with_reducible refine Sy.is_store ?_); (refine Sy.st_storeAll T F (h := ?_)); clear T F; intro ac w T F))
    | (((with_reducible refine Sy.is_alloc ?_); refine Sy.st_alloc T F (h := ?_); clear T F; intro ac g w T F))
    | (((with_reducible refine Sy.is_op ?_); refine Sy.st_pure T (h := ?_); clear T; intro ac T))
    | ((with_reducible refine Sy.is_cond ?_); (refine Sy.st_false T (h := ?_)))
    | (with_reducible refine wpList_nil ?_)
    | (with_reducible refine wp_region_lit ?_)
    | (with_reducible refine wp_block ?_)
    | (with_reducible refine wp_skip ?_)
    | ((with_reducible refine wp_seq_k ?_); intro _ _)
    | (go_at_K; go_step)
    | (simp only [Exit.then, Exit.inBlock, ↓reduceIte, Nat.reduceEqDiff]))
  obtain ⟨b5, rfl⟩ := nameP T 5 rfl
  obtain ⟨b7, rfl⟩ := nameP T 7 rfl
  obtain ⟨b11, rfl⟩ := nameP T 11 rfl
  refine wp_loop_ghost_k (fun n0 ac w' => ∃ k x q mm, n0 = l.length - k ∧ k ≤ l.length ∧ Sub w0 mm ∧ RegAt mm x q ∧ PG t x ∧ settledS x o.source o.inc o.cell = true ∧ Sy.Tm ac 128 [(3, .slice la l.length lc), (4, .int .u64 (count : Int)), (5, .pointer (some ⟨b5, 0, none⟩)), (7, .pointer (some ⟨b7, 0, none⟩)), (11, .pointer (some ⟨b11, 0, none⟩)), (14, .int .i64 (k : Int))] ∧ Sy.Mem ⟨w0, [], w0⟩ mm [⟨b11, regCs x q, 51⟩, ⟨b7, opCs (eatO o), 53⟩, ⟨b5, tabCs t ta tc, 24⟩] w') l.length ?_ ?_
  · exact ⟨0, x, q, m, rfl, Nat.zero_le _, hS, hx, hpx, hst, (T.part (by repeat (first | exact Sy.Part.nil | apply Sy.Part.cons rfl))), (F.sel (by repeat (first | exact Sy.Sel.nil | apply Sy.Sel.cons (by repeat (first | exact Sy.Take.here | apply Sy.Take.there)))))⟩
  clear T F hx hpx hst hS
  clear x y q ax
  clear m
  intro n0 ac w hI J K hJ hK
  obtain ⟨k, x, q, mm, rfl, hk, h0S, hx, hpx, hst, T, F⟩ := hI
  by_cases hlt : k < l.length
  case neg =>
    obtain rfl : k = l.length := by omega
    have z1 : decide ((l.length : Int) < (l.length : Int)) = false := decide_eq_false (by omega)
    repeat (first
    | (((with_reducible refine Sy.is_load ?_); (first
    | refine Sy.st_loadOne T F (h := ?_)
    | refine Sy.st_loadAll T F (h := ?_)); clear T; intro ac T))
    | (((with_reducible refine Sy.is_op ?_); refine Sy.st_pure T (h := ?_); clear T; intro ac T))
    | ((with_reducible refine Sy.is_cond ?_); (refine Sy.st_false T (h := ?_)))
    | (with_reducible refine wpList_nil ?_)
    | (with_reducible refine wp_region_lit ?_)
    | (with_reducible refine wp_exit ?_)
    | ((with_reducible refine wp_seq_k ?_); intro _ _)
    | (go_at_K; go_step)
    | (simp only [Exit.then, Exit.inBlock, ↓reduceIte, Nat.reduceEqDiff]))
    have G := settled_any w x q (hx.sub F.sub) o.source o.inc o.cell
    rw [hst] at G
    refine Sy.st_callV0 T F (hc := G) (h := ?_); (clear T F; intro ac w T F)
    repeat (first
    | (((with_reducible refine Sy.is_guard ?_); (refine Sy.st_guard T (h := ?_))))
    | (((with_reducible refine Sy.is_op ?_); refine Sy.st_pure T (h := ?_); clear T; intro ac T)))
    refine Sy.st_callV0 T F (hc := awake_any _) (h := ?_); (clear T F; intro ac w T F)
    repeat (first
    | (((with_reducible refine Sy.is_op ?_); refine Sy.st_pure T (h := ?_); clear T; intro ac T))
    | (with_reducible refine wpList_nil ?_)
    | (with_reducible refine wp_ret ?_)
    | (go_at_K; go_step)
    | (simp only [Exit.then, Exit.inBlock, ↓reduceIte, Nat.reduceEqDiff]))
    ((try simp only [Exit.inBlock, Exit.then]); refine Sy.st_ret1 T F rfl (by repeat (first | exact Sy.ResV.nil | apply Sy.ResV.tmp rfl | apply Sy.ResV.row rfl rfl rfl (by repeat (first | exact Sy.Take.here | apply Sy.Take.there)) (by rfl) | apply Sy.ResV.one rfl rfl rfl (by repeat (first | exact Sy.Take.here | apply Sy.Take.there)) (by rfl))) ?_)
    exact F.retV _
  have z1 : decide ((k : Int) < (l.length : Int)) = true := decide_eq_true (by omega)
  have z2 := Rg.i64_up hlt hl.1
  have z3 : IntKind.u64.wrap (k : Int) = (k : Int) := u64_wrap (by omega) (by omega)
  have z4 : IntKind.u64.wrap ((count : Int) + (k : Int)) = ((count + k : Nat) : Int) := by rw [u64_wrap (by omega) (by omega)]; omega
  obtain ⟨lb, lo, row, hla, hrl, hat, hrow⟩ := rows_get (rows_sub (w := w0) (w' := mm) (R := OpR) (fun _ _ h => h) h0S hl) hlt
  obtain ⟨rfl, hok⟩ := hrow
  have hsx := Rg.short_of (may_great hpx.1)
  have ht' := ht.sub h0S
  subst hla
  repeat (first
    | (((with_reducible refine Sy.is_op ?_); refine Sy.st_pure T (h := ?_); clear T; intro ac T))
    | ((with_reducible refine Sy.is_cond ?_); (refine Sy.st_true T (h := ?_)))
    | (with_reducible refine wpList_nil ?_)
    | (with_reducible refine wp_region_lit ?_)
    | (with_reducible refine wp_block ?_)
    | (with_reducible refine wp_skip ?_)
    | ((with_reducible refine wp_seq_k ?_); intro _ _)
    | (go_at_K; go_step)
    | (simp only [Exit.then, Exit.inBlock, ↓reduceIte, Nat.reduceEqDiff])
    | ((with_reducible refine Sy.is_drawn (id := 10) ?_); refine Sy.sx_region F [] (.t 0 (.t 1 (.t 2 (.t 3 (.t 4 (.t 5 (.t 6 (.t 7 (.t 8 (.t 9 (.h 10 (.t 11 .e)))))))))))) [] (by kernel_rfl) ?_; (clear F; intro w F))
    | ((refine Sy.sx_plain (h := ?_)); (first
    | ((with_reducible refine Sy.ux_load ?_); (first
    | refine Sy.sx_val (Sy.rx_loadAll T F) T rfl ?_
    | refine Sy.sx_val (Sy.rx_oldAgg T F) T rfl ?_); clear T; intro ac T)
    | (refine Sy.sx_pure T (h := ?_); clear T; intro ac T)); show Sy.wpUx _ _ _ _ _ _ _ _ _))
  by_cases hRk : Right07 t x l[k] (count + k)
  case neg =>
    have G := right_any w t ta tc (ht'.sub F.sub) x q (hx.sub F.sub) hsx l[k] (count + k) false ⟨fun k => (by cases k), fun k => absurd k hRk⟩; refine Sy.sx_callV0 rfl T F (hc := G) (h := ?_); (clear T F G; intro ac w T F)
    repeat (first
    | (((with_reducible refine Sy.is_op ?_); refine Sy.st_pure T (h := ?_); clear T; intro ac T))
    | ((with_reducible refine Sy.is_cond ?_); (refine Sy.st_true T (h := ?_)))
    | (with_reducible refine wpList_nil ?_)
    | (with_reducible refine wp_region_lit ?_)
    | (with_reducible refine wp_exit ?_)
    | (go_at_K; go_step)
    | (simp only [Exit.then, Exit.inBlock, ↓reduceIte, Nat.reduceEqDiff])
    | ((refine Sy.sx_plain (h := ?_)); ((refine Sy.sx_pure T (h := ?_); clear T; intro ac T)); show Sy.wpUx _ _ _ _ _ _ _ _ _)
    | (with_reducible refine Sy.sx_nil ?_)
    | (with_reducible refine Sy.sx_end ?_))
    exact Sy.handed hJ (k := l.length - (k + 1)) (by omega) ⟨k + 1, x, q, mm, rfl, by omega, h0S, hx, hpx, hst, (T.part (by repeat (first | exact Sy.Part.nil | apply Sy.Part.cons rfl))), (F.sel (by repeat (first | exact Sy.Sel.nil | apply Sy.Sel.cons (by repeat (first | exact Sy.Take.here | apply Sy.Take.there)))))⟩
  have G := right_any w t ta tc (ht'.sub F.sub) x q (hx.sub F.sub) hsx l[k] (count + k) true ⟨fun _ => hRk, fun _ => rfl⟩; refine Sy.sx_callV0 rfl T F (hc := G) (h := ?_); (clear T F G; intro ac w T F)
  obtain ⟨hmk, hpk, _, ck0⟩ := right_parts hRk
  repeat (first
    | ((with_reducible refine Sy.is_cond ?_); (refine Sy.st_false T (h := ?_)))
    | (with_reducible refine wp_skip ?_)
    | ((with_reducible refine wp_seq_k ?_); intro _ _)
    | (go_at_K; go_step)
    | (simp only [Exit.then, Exit.inBlock, ↓reduceIte, Nat.reduceEqDiff])
    | ((refine Sy.sx_plain (h := ?_)); ((refine Sy.sx_pure T (h := ?_); clear T; intro ac T)); show Sy.wpUx _ _ _ _ _ _ _ _ _)
    | (with_reducible refine Sy.sx_nil ?_)
    | (with_reducible refine Sy.sx_end ?_))
  have hpy := apply_pg htm hpx l[k] hmk (count + k) n ck0 hn
  have hsy := settled_keeps (t := t) (o := l[k]) (count := count + k) (n := n) hpx hst
  have hgd := good_of hpx hmk hok htm ck0 (show U64 (count + k) by unfold U64; omega) hx.last hn
  have G1 := fun w hs => apply_any w mm hs t ta tc ht' x q hx l[k] (count + k) n hgd
  generalize applyR t x l[k] (count + k) n = A at *
  obtain ⟨y, yr⟩ := A
  replace hpy : PG t y := hpy
  replace hsy : settledS y o.source o.inc o.cell = true := hsy
  have htold := once_told (t := t) (count := count) (n := n) (o := eatO o) rfl hcl hsy
  rename ∀ (a : Act) (w : World), Code.wp _ (Code.seq (Code.seq (Code.region 12 _ _) _) _) _ a w → _ => hK12
  have H12 := Sy.cutP (I := fun ac w => ∃ m' q2 g15, Sub mm m' ∧ RegAt m' y q2 ∧ Sy.Tm ac 128 [(3, .slice (some ⟨lb, lo, none⟩) l.length lc), (4, .int .u64 (count : Int)), (5, .pointer (some ⟨b5, 0, none⟩)), (7, .pointer (some ⟨b7, 0, none⟩)), (11, .pointer (some ⟨b11, 0, none⟩)), (14, .int .i64 (k : Int)), (15, .pointer (some ⟨g15, 0, none⟩)), (17, .int .i64 0)] ∧ Sy.Mem ⟨w0, [], w0⟩ m' [⟨g15, regCs y q2, 51⟩, ⟨b11, regCs x q, 51⟩, ⟨b7, opCs (eatO o), 53⟩, ⟨b5, tabCs t ta tc, 24⟩] w) hK12 (by
    clear T F
    intro ac w hI
    obtain ⟨m', q2, g15, hS1, hy, T, F⟩ := hI
    clear hK12 G1
    have hgy := good_of hpy hmo hk0 htm c0 hc hy.last hn
    repeat (first
    | (((with_reducible refine Sy.is_load ?_); (refine Sy.st_loadAll T F (h := ?_)); clear T; intro ac T))
    | (((with_reducible refine Sy.is_store ?_); (refine Sy.st_storeAll T F (h := ?_)); clear T F; intro ac w T F))
    | (((with_reducible refine Sy.is_op ?_); refine Sy.st_pure T (h := ?_); clear T; intro ac T))
    | ((with_reducible refine Sy.is_cond ?_); (refine Sy.st_false T (h := ?_)))
    | (with_reducible refine wpList_nil ?_)
    | (with_reducible refine wp_region_lit ?_)
    | (with_reducible refine wp_skip ?_)
    | ((with_reducible refine wp_seq_k ?_); intro _ _)
    | (go_at_K; go_step)
    | (simp only [Exit.then, Exit.inBlock, ↓reduceIte, Nat.reduceEqDiff]))
    have G := apply_any _ _ F.sub t ta tc (ht'.sub hS1) y q2 hy (eatO o) count n hgy; refine Sy.st_callM0 T F (hc := G) (h := ?_); (clear T F G; intro v m ac w hR hS T F)
    rw [htold] at hR
    obtain ⟨q3, ax3, rfl, hz, hzr⟩ := hR
    replace hz : RegAt m y q3 := hz
    have hy2 := hy.sub hS
    repeat (first
    | (((with_reducible refine Sy.is_guard ?_); (refine Sy.st_guard T (h := ?_))))
    | (((with_reducible refine Sy.is_load ?_); (first
    | refine Sy.st_loadOne T F (h := ?_)
    | refine Sy.st_loadAll T F (h := ?_)); clear T; intro ac T))
    | (((with_reducible refine Sy.is_store ?_); (refine Sy.st_storeAll T F (h := ?_)); clear T F; intro ac w T F))
    | (((with_reducible refine Sy.is_alloc ?_); refine Sy.st_alloc T F (h := ?_); clear T F; intro ac g w T F))
    | (((with_reducible refine Sy.is_op ?_); refine Sy.st_pure T (h := ?_); clear T; intro ac T))
    | (with_reducible refine wpList_nil ?_)
    | (with_reducible refine wp_region_lit ?_)
    | ((with_reducible refine wp_seq_k ?_); intro _ _)
    | (go_at_K; go_step)
    | (simp only [Exit.then, Exit.inBlock, ↓reduceIte, Nat.reduceEqDiff]))
    have G := sameT w y q3 q2 (hz.sub F.sub) (hy2.sub F.sub); refine Sy.st_callV0 T F (hc := G) (h := ?_); (clear T F G; intro ac w T F)
    repeat (first
    | (((with_reducible refine Sy.is_guard ?_); (refine Sy.st_guard T (h := ?_))))
    | (((with_reducible refine Sy.is_op ?_); refine Sy.st_pure T (h := ?_); clear T; intro ac T))
    | ((with_reducible refine Sy.is_cond ?_); (refine Sy.st_false T (h := ?_)))
    | (with_reducible refine wpList_nil ?_)
    | (with_reducible refine wp_region_lit ?_)
    | (with_reducible refine wp_skip ?_)
    | (go_at_K; go_step)
    | (simp only [Exit.then, Exit.inBlock, ↓reduceIte, Nat.reduceEqDiff]))
    exact Sy.handed hJ (k := l.length - (k + 1)) (by omega) ⟨k + 1, y, q2, m, rfl, by omega, (h0S.trans hS1).trans hS, hy2, hpy, hsy, (T.part (by repeat (first | exact Sy.Part.nil | apply Sy.Part.cons rfl))), (F.sel (by repeat (first | exact Sy.Sel.nil | apply Sy.Sel.cons (by repeat (first | exact Sy.Take.here | apply Sy.Take.there)))))⟩)
  clear hK12
  repeat (first
    | ((with_reducible refine Sy.is_drawn (id := 11) ?_); refine Sy.sx_region F [] (.t 0 (.t 1 (.t 2 (.t 3 (.t 4 (.t 5 (.t 6 (.t 7 (.t 8 (.t 9 (.g 10 (.t 11 (.t 12 (.t 13 (.t 14 (.f 15 (.h 16 (.h 17 (.h 18 (.t 19 .e)))) 16 (.h 15 (.h 17 (.h 18 (.t 19 .e))))))))) 15 (.f 10 (.t 11 (.t 12 (.t 13 (.t 14 (.h 16 (.h 17 (.h 18 (.t 19 .e)))))))) 16 (.h 10 (.t 11 (.t 12 (.t 13 (.t 14 (.h 17 (.h 18 (.t 19 .e))))))))) 16 (.f 10 (.t 11 (.t 12 (.t 13 (.t 14 (.h 15 (.h 17 (.h 18 (.t 19 .e)))))))) 15 (.h 10 (.t 11 (.t 12 (.t 13 (.t 14 (.h 17 (.h 18 (.t 19 .e)))))))))))))))))))) [] (by kernel_rfl) ?_; (clear F; intro w F))
    | ((refine Sy.sx_plain (h := ?_)); (first
    | ((with_reducible refine Sy.ux_load ?_); (first
    | refine Sy.sx_val (Sy.rx_loadAll T F) T rfl ?_
    | refine Sy.sx_val (Sy.rx_oldAgg T F) T rfl ?_); clear T; intro ac T)
    | (refine Sy.sx_pure T (h := ?_); clear T; intro ac T)); show Sy.wpUx _ _ _ _ _ _ _ _ _)
    | (with_reducible refine Sy.sx_fork3 ?_ ?_ ?_))
  all_goals
    repeat (first
    | ((refine Sy.sx_newX (i := 15) (T := T) (F := F) (hr := Sy.new_alloc rfl) (h := ?_)); clear T F; intro ac g w T F)
    | ((refine Sy.sx_newX (i := 16) (T := T) (F := F) (hr := Sy.new_alloc rfl) (h := ?_)); clear T F; intro ac g w T F)
    | (with_reducible refine Sy.sx_fork ?_ ?_))
  all_goals
    repeat (first
    | ((refine Sy.sx_newX (i := 15) (T := T) (F := F) (hr := Sy.new_alloc rfl) (h := ?_)); clear T F; intro ac g w T F)
    | ((refine Sy.sx_newX (i := 16) (T := T) (F := F) (hr := Sy.new_alloc rfl) (h := ?_)); clear T F; intro ac g w T F))
  all_goals
    have G := G1 w F.sub; refine Sy.sx_callM0 rfl T F (hc := G) (h := ?_); (clear T F G; intro v m ac w hR hS T F)
    obtain ⟨q2, ax, rfl, hy, hyr⟩ := hR
    repeat (first
    | (go_at_K; go_step)
    | (simp only [Exit.then, Exit.inBlock, ↓reduceIte, Nat.reduceEqDiff])
    | ((refine Sy.sx_newX (i := 15) (T := T) (F := F) (hr := Sy.new_alloc rfl) (h := ?_)); clear T F; intro ac g w T F)
    | ((refine Sy.sx_newX (i := 16) (T := T) (F := F) (hr := Sy.new_alloc rfl) (h := ?_)); clear T F; intro ac g w T F)
    | ((refine Sy.sx_plain (h := ?_)); ((refine Sy.sx_pure T (h := ?_); clear T; intro ac T)); show Sy.wpUx _ _ _ _ _ _ _ _ _)
    | (with_reducible refine Sy.sx_fork ?_ ?_)
    | (with_reducible refine Sy.sx_nil ?_)
    | (with_reducible refine Sy.sx_end ?_)
    | ((refine Sy.sx_storeAll (T := T) (F := F) (h := ?_)); clear T F; intro ac w T F))
  all_goals
    repeat (first
    | (go_at_K; go_step)
    | (simp only [Exit.then, Exit.inBlock, ↓reduceIte, Nat.reduceEqDiff])
    | ((refine Sy.sx_newX (i := 15) (T := T) (F := F) (hr := Sy.new_alloc rfl) (h := ?_)); clear T F; intro ac g w T F)
    | ((refine Sy.sx_newX (i := 16) (T := T) (F := F) (hr := Sy.new_alloc rfl) (h := ?_)); clear T F; intro ac g w T F)
    | ((refine Sy.sx_plain (h := ?_)); ((refine Sy.sx_pure T (h := ?_); clear T; intro ac T)); show Sy.wpUx _ _ _ _ _ _ _ _ _)
    | (with_reducible refine Sy.sx_nil ?_)
    | (with_reducible refine Sy.sx_end ?_)
    | ((refine Sy.sx_storeAll (T := T) (F := F) (h := ?_)); clear T F; intro ac w T F))
  all_goals
    exact ⟨m, q2, _, hS, hy, (T.part (by repeat (first | exact Sy.Part.nil | apply Sy.Part.cons rfl))), (F.sel (by repeat (first | exact Sy.Sel.nil | apply Sy.Sel.cons (by repeat (first | exact Sy.Take.here | apply Sy.Take.there)))))⟩
end En
theorem engineOnceW (w : World) (t : Tb.TabD) (ta : Option Addr) (tc : Nat) (ht : Tb.TabAt w t ta tc) (r : Rg.RegD) (p : Rg.RegA) (h : Rg.RegAt w r p) (o : Rg.OpD) (ho : Rg.OpOk o) (la : Option Addr) (lc : Nat) (l : List Rg.OpD) (hl : Rows Rg.OpR 10 w la l) (count : Int) (hc : 0 ≤ count ∧ count ≤ 18446744073709551615) :
    Calls Try.prog 8 #[.agg (Tb.tabCs t ta tc).toArray, .agg (Rg.regCs r p).toArray, .agg (Rg.opCs o).toArray, .slice la l.length lc, .int .u64 count] w (RetBo w true) := by
  obtain ⟨c, rfl⟩ : ∃ n : Nat, count = (n : Int) := ⟨count.toNat, by omega⟩
  exact En.once_any w t ta tc ht r p h o ho la lc l hl c (by unfold Rg.U64; omega)
end Go.Proofs.Ytdpmfjbhadapiaa
