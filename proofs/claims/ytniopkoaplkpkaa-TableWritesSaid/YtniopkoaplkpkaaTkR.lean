/- The walk of table.Put. Conditions: the contract can be read. Printed by a program (gentkr.py). -/
import Derived.Test.YtniopkoaplkpkaaTkQ
namespace Go.Proofs.Ytniopkoaplkpkaa
open Go.RowKit
set_option linter.unusedVariables false
set_option linter.unusedSimpArgs false
namespace Tk
open Sy (RetV RetM Sub)
open Rg (eqT eqF i64_wrap I64 U8 fm_up)
open Pk (numB numB_len zig zig_lt)
open Tb (SetD EmitD RuleD TabD SetR EmitR RuleR RuleA RuleAt ruleCs tabCs TabAt)
theorem nat_of {n : Int} (h : 0 ≤ n) : n = ((n.toNat : Nat) : Int) := by omega
theorem fm_lt {α : Type} {f : α → List UInt8} {c n : Nat} {l : List α} (hn : l.length ≤ n) (h : ∀ x ∈ l, (f x).length ≤ c) (k : Nat) : ((l.take k).flatMap f).length ≤ c * n := by
  have q := Rg.fm_len (f := f) (c := c) (l := l.take k) fun x hx => h x (List.mem_of_mem_take hx)
  have q2 : (l.take k).length ≤ n := by rw [List.length_take]; omega
  exact Nat.le_trans q (Nat.mul_le_mul_left _ q2)
set_option maxRecDepth 20000 in
set_option maxHeartbeats 1000000 in
theorem tput_no (w : World) (t : TabD) (ta : Option Addr) (tc : Nat) (h : TabAt w t ta tc) (hm : Tb.mayS t = false) :
    Calls Try.prog 12 #[.agg (tabCs t ta tc).toArray] w (RetV w (.tuple #[.slice none 0 0, .int .i64 10])) := by
  have F := Sy.Mem.start (Sub.refl w)
  refine Sy.enter Try.func12 rfl Try.ntmps12 rfl ?_; intro ac T; simp only [Sy.enum, Nat.zero_add, Nat.reduceAdd] at T
  repeat (first
    | (((with_reducible refine Sy.is_load ?_); (refine Sy.st_loadAll T F (h := ?_)); clear T; intro ac T))
    | (((with_reducible refine Sy.is_box ?_); (refine Sy.st_boxAgg T F (h := ?_)); clear T F; intro ac g w T F))
    | (((with_reducible refine Sy.is_op ?_); refine Sy.st_pure T (h := ?_); clear T; intro ac T))
    | (with_reducible refine wpList_nil ?_)
    | (with_reducible refine wp_region_lit ?_)
    | ((with_reducible refine wp_seq_k ?_); intro _ _)
    | (go_at_K; go_step)
    | (simp only [Exit.then, Exit.inBlock, ↓reduceIte, Nat.reduceEqDiff]))
  refine Sy.st_callV0 T F (hc := Tb.mayM F.sub h hm) (h := ?_); (clear T F; intro ac w T F)
  repeat (first
    | (((with_reducible refine Sy.is_op ?_); refine Sy.st_pure T (h := ?_); clear T; intro ac T))
    | ((with_reducible refine Sy.is_cond ?_); (refine Sy.st_true T (h := ?_)))
    | (with_reducible refine wpList_nil ?_)
    | (with_reducible refine wp_region_lit ?_)
    | (with_reducible refine wp_ret ?_)
    | ((with_reducible refine wp_seq_k ?_); intro _ _)
    | (go_at_K; go_step)
    | (simp only [Exit.then, Exit.inBlock, ↓reduceIte, Nat.reduceEqDiff]))
  ((try simp only [Exit.inBlock, Exit.then]); refine Sy.st_ret2 T F rfl (by repeat (first | exact Sy.ResV.nil | apply Sy.ResV.tmp rfl | apply Sy.ResV.row rfl rfl rfl (by repeat (first | exact Sy.Take.here | apply Sy.Take.there)) (by rfl) | apply Sy.ResV.one rfl rfl rfl (by repeat (first | exact Sy.Take.here | apply Sy.Take.there)) (by rfl))) ?_)
  exact F.retV _
set_option maxRecDepth 20000 in
set_option maxHeartbeats 8000000 in
theorem tput_yes (W0 : World) (t : TabD) (ta : Option Addr) (tc : Nat) (h : TabAt W0 t ta tc) (hm : Tb.mayS t = true) :
    Calls Try.prog 12 #[.agg (tabCs t ta tc).toArray] W0 (RetM W0 W0 (BytP W0.heap.size (tabB t) 0)) := by
  have F := Sy.Mem.start (Sub.refl W0)
  have hi := tabIn h hm
  have q1 := hi.states
  have q2 := hi.vars
  have q3 := hi.nr
  obtain ⟨n1, hn1⟩ := Int.eq_ofNat_of_zero_le q1.1
  obtain ⟨n2, hn2⟩ := Int.eq_ofNat_of_zero_le q2.1
  refine Sy.enter Try.func12 rfl Try.ntmps12 rfl ?_; intro ac T; simp only [Sy.enum, Nat.zero_add, Nat.reduceAdd] at T
  repeat (first
    | (((with_reducible refine Sy.is_load ?_); (refine Sy.st_loadAll T F (h := ?_)); clear T; intro ac T))
    | (((with_reducible refine Sy.is_box ?_); (refine Sy.st_boxAgg T F (h := ?_)); clear T F; intro ac g w T F))
    | (((with_reducible refine Sy.is_op ?_); refine Sy.st_pure T (h := ?_); clear T; intro ac T))
    | (with_reducible refine wpList_nil ?_)
    | (with_reducible refine wp_region_lit ?_)
    | ((with_reducible refine wp_seq_k ?_); intro _ _)
    | (go_at_K; go_step)
    | (simp only [Exit.then, Exit.inBlock, ↓reduceIte, Nat.reduceEqDiff]))
  refine Sy.st_callV0 T F (hc := Tb.mayM F.sub h hm) (h := ?_); (clear T F; intro ac w T F)
  repeat (first
    | (((with_reducible refine Sy.is_load ?_); (refine Sy.st_loadOne T F (h := ?_)); clear T; intro ac T))
    | (((with_reducible refine Sy.is_buildSlice ?_); refine Sy.st_buildSlice T F (h := ?_); (conv => whnf); (repeat (refine ⟨by first | exact rfl | exact ⟨rfl, rfl⟩, ?_⟩; (conv => whnf))); clear T F; intro ac g w T F))
    | (((with_reducible refine Sy.is_op ?_); refine Sy.st_pure T (h := ?_); clear T; intro ac T))
    | ((with_reducible refine Sy.is_cond ?_); (refine Sy.st_false T (h := ?_)))
    | (with_reducible refine wpList_nil ?_)
    | (with_reducible refine wp_region_lit ?_)
    | (with_reducible refine wp_skip ?_)
    | ((with_reducible refine wp_seq_k ?_); intro _ _)
    | (go_at_K; go_step)
    | (simp only [Exit.then, Exit.inBlock, ↓reduceIte, Nat.reduceEqDiff]))
  have hF := F.size
  have hU := ints_own (ns := [n1, n2, t.rules.length]) (F.get Sy.Take.here) (by simp [hn1, hn2])
  have G := callsF F.sub (nums_any (a := none) (cap := 0) (l := []) (c2 := 3) w (Bytes.nil _ _) hU (by simp) (by simp; omega) (by simp) (by simp)); refine Sy.st_callM0 T F (hc := G) (h := ?_); (clear T F G; intro v m ac w hR hS T F)
  replace hR := hR.base hF
  obtain ⟨L0, hL0⟩ : ∃ L, L = [] ++ [n1, n2, t.rules.length].flatMap numB := ⟨_, rfl⟩
  rw [← hL0] at hR
  have hL0n : L0.length ≤ 30 := by
    have b1 := numB_len (n := n1) (by omega)
    have b2 := numB_len (n := n2) (by omega)
    have b3 := numB_len (n := t.rules.length) (by omega)
    rw [hL0]
    simp
    omega
  have hfin : L0 ++ t.rules.flatMap ruleB = tabB t := by
    rw [hL0]
    unfold tabB
    rw [hn1, hn2]
    simp
  have hrows := rows_sub (fun _ _ h => RuleR.sub h hS) hS h.rules
  obtain ⟨ba, bc, rfl, hb1, hb2, hb3, hb4⟩ := id hR
  repeat (first
    | (((with_reducible refine Sy.is_load ?_); (refine Sy.st_loadOne T F (h := ?_)); clear T; intro ac T))
    | (((with_reducible refine Sy.is_op ?_); refine Sy.st_pure T (h := ?_); clear T; intro ac T))
    | (with_reducible refine wpList_nil ?_)
    | (with_reducible refine wp_region_lit ?_)
    | (with_reducible refine wp_block ?_)
    | ((with_reducible refine wp_seq_k ?_); intro _ _)
    | (go_at_K; go_step)
    | (simp only [Exit.then, Exit.inBlock, ↓reduceIte, Nat.reduceEqDiff]))
  refine wp_loop_ghost_k (fun n0 ac w' => ∃ k m' v, n0 = t.rules.length - k ∧ k ≤ t.rules.length ∧ Sub m m' ∧ BytF W0.heap.size (L0 ++ (t.rules.take k).flatMap ruleB) m' v ∧ Sy.Tm ac 93 [(4, v), (24, .slice ta t.rules.length tc), (25, .int .i64 (t.rules.length : Int)), (26, .int .i64 (k : Int))] ∧ Sy.Mem ⟨W0, [], W0⟩ m' [] w') t.rules.length ?_ ?_
  · exact ⟨0, m, _, rfl, Nat.zero_le _, Sub.refl _, by simpa using hR, (T.part (by repeat (first | exact Sy.Part.nil | apply Sy.Part.cons rfl))), (F.sel (by repeat (first | exact Sy.Sel.nil | apply Sy.Sel.cons (by repeat (first | exact Sy.Take.here | apply Sy.Take.there)))))⟩
  clear T F hR hb1 hb2 hb3 hb4 hU
  intro n0 ac w hI J1 K1 hJ1 hK1
  obtain ⟨k, m1, v1, rfl, hk, h1S, hv1, T, F⟩ := hI
  have hdk := fm_lt (f := ruleB) (c := 9000) hi.nr (fun r hr => rule_len (hi.rules r hr)) k
  have hdk2 : (L0 ++ (t.rules.take k).flatMap ruleB).length ≤ 300000 := by rw [List.length_append]; omega
  obtain ⟨ba, bc, rfl, hb1, hb2, hb3, hb4⟩ := hv1
  by_cases hlt : k < t.rules.length
  case neg =>
    obtain rfl : k = t.rules.length := by omega
    have t1 : decide ((t.rules.length : Int) < (t.rules.length : Int)) = false := decide_eq_false (by omega)
    rw [List.take_length, hfin] at hb1 hb2 hb4
    rw [List.take_length, hfin] at T
    repeat (first
    | (((with_reducible refine Sy.is_op ?_); refine Sy.st_pure T (h := ?_); clear T; intro ac T))
    | ((with_reducible refine Sy.is_cond ?_); (refine Sy.st_false T (h := ?_)))
    | (with_reducible refine wpList_nil ?_)
    | (with_reducible refine wp_region_lit ?_)
    | (with_reducible refine wp_exit ?_)
    | (with_reducible refine wp_ret ?_)
    | ((with_reducible refine wp_seq_k ?_); intro _ _)
    | (go_at_K; go_step)
    | (simp only [Exit.then, Exit.inBlock, ↓reduceIte, Nat.reduceEqDiff]))
    ((try simp only [Exit.inBlock, Exit.then]); refine Sy.st_ret2 T F rfl (by repeat (first | exact Sy.ResV.nil | apply Sy.ResV.tmp rfl | apply Sy.ResV.row rfl rfl rfl (by repeat (first | exact Sy.Take.here | apply Sy.Take.there)) (by rfl) | apply Sy.ResV.one rfl rfl rfl (by repeat (first | exact Sy.Take.here | apply Sy.Take.there)) (by rfl))) ?_)
    exact F.retM ⟨_, rfl, ba, bc, rfl, hb1, hb2, hb3, hb4⟩
  have t1 : decide ((k : Int) < (t.rules.length : Int)) = true := decide_eq_true (by omega)
  have t2 : IntKind.i64.wrap ((k : Int) + 1) = ((k + 1 : Nat) : Int) := by rw [i64_wrap (by omega) (by omega)]; omega
  have hup := fm_up (f := ruleB) hlt
  have hir := hi.rules _ (List.getElem_mem hlt)
  obtain ⟨rb, ro, row, hra, hrl, hat, hrow⟩ := rows_get (rows_sub (fun _ _ h => RuleR.sub h h1S) h1S hrows) hlt
  generalize t.rules[k] = r at *
  obtain ⟨⟨ga, gc, sa, sc, ea, ec⟩, rfl, hr⟩ := hrow
  replace hra : ta = _ := hra
  subst hra
  have p1 := hir.src
  have p2 := hir.action
  have p3 := hir.party
  have p4 := hir.dst
  have p5 := hir.ns
  have p6 := hir.ne
  obtain ⟨f1, hf1⟩ := Int.eq_ofNat_of_zero_le p1.1
  obtain ⟨f2, hf2⟩ := Int.eq_ofNat_of_zero_le p2.1
  obtain ⟨f3, hf3⟩ := Int.eq_ofNat_of_zero_le p3.1
  obtain ⟨f4, hf4⟩ := Int.eq_ofNat_of_zero_le p4.1
  have g1 := numB_len (n := f1) (by omega)
  have g2 := numB_len (n := f2) (by omega)
  have g3 := numB_len (n := f3) (by omega)
  have g4 := numB_len (n := f4) (by omega)
  have g5 := form_len hir.guard
  have g6 := numB_len (n := r.sets.length) (by omega)
  have g7 := numB_len (n := r.emits.length) (by omega)
  obtain ⟨L1, hL1⟩ : ∃ L, L = L0 ++ (t.rules.take k).flatMap ruleB := ⟨_, rfl⟩
  have n1' : L1.length ≤ 300000 := by rw [hL1]; exact hdk2
  rw [← hL1] at hb1 hb2 hb4 T
  dsimp only [ruleCs] at hat
  repeat (first
    | (((with_reducible refine Sy.is_load ?_); (refine Sy.st_oldAgg T F (h := ?_)); clear T; intro ac T))
    | (((with_reducible refine Sy.is_store ?_); (refine Sy.st_storeAll T F (h := ?_)); clear T F; intro ac w T F))
    | (((with_reducible refine Sy.is_alloc ?_); refine Sy.st_alloc T F (h := ?_); clear T F; intro ac g w T F))
    | (((with_reducible refine Sy.is_op ?_); refine Sy.st_pure T (h := ?_); clear T; intro ac T))
    | ((with_reducible refine Sy.is_cond ?_); (refine Sy.st_true T (h := ?_)))
    | (with_reducible refine wpList_nil ?_)
    | (with_reducible refine wp_region_lit ?_)
    | (with_reducible refine wp_block ?_)
    | (with_reducible refine wp_skip ?_)
    | ((with_reducible refine wp_seq_k ?_); intro _ _)
    | (go_at_K; go_step)
    | (simp only [Exit.then, Exit.inBlock, ↓reduceIte, Nat.reduceEqDiff])
    | ((with_reducible refine Sy.is_drawn (id := 7) ?_); refine Sy.sx_region F [] (.t 0 (.t 1 (.t 2 (.t 3 (.t 4 (.t 5 (.t 6 (.t 7 (.t 8 (.t 11 (.t 12 (.h 9 (.h 10 (.h 13 (.t 14 .e))))))))))))))) [] (by kernel_rfl) ?_; (clear F; intro w F))
    | ((refine Sy.sx_plain (h := ?_)); (first
    | ((with_reducible refine Sy.ux_load ?_); (refine Sy.sx_val (Sy.rx_loadOne T F) T rfl ?_); clear T; intro ac T)
    | (refine Sy.sx_pure T (h := ?_); clear T; intro ac T)); show Sy.wpUx _ _ _ _ _ _ _ _ _)
    | (refine Sy.sx_buildSlice (T := T) (F := F) (h := ?_); (conv => whnf); (repeat (refine ⟨by first | exact rfl | exact ⟨rfl, rfl⟩, ?_⟩; (conv => whnf))); clear T F; intro ac g w T F))
  have hF := F.size
  have hU := ints_own (ns := [f1, f2, f3, f4]) (F.get Sy.Take.here) (by simp [hf1, hf2, hf3, hf4])
  have G := callsF F.sub (nums_any (cap := bc) (c2 := 4) _ (hb1.sub F.sub) hU (by simp) (by simp; omega) (by simp) (by simp only [List.length_append] at *; omega)); refine Sy.sx_callM0 rfl T F (hc := G) (h := ?_); (clear T F G; intro v m ac w hR hS T F)
  clear hU hb1 hb2 hb3 hb4
  obtain ⟨ba, bc, rfl, hb1, hb2, hb3, hb4⟩ := hR.base hF
  have hSa := hS
  skip
  have hF := F.size
  have G := callsF F.sub (formula_any (cap := bc) (c2 := gc) _ (hb1.sub F.sub) ((hr.guard.sub hSa).sub F.sub) hir.guard (by simp only [List.length_append, List.flatMap_cons, List.flatMap_nil, List.append_nil]; omega)); refine Sy.sx_callM0 rfl T F (hc := G) (h := ?_); (clear T F G; intro v m ac w hR hS T F)
  clear hb1 hb2 hb3 hb4
  obtain ⟨ba, bc, rfl, hb1, hb2, hb3, hb4⟩ := hR.base hF
  have hSb := hS
  obtain ⟨L2, hL2⟩ : ∃ L, L = L1 ++ [f1, f2, f3, f4].flatMap numB ++ formB r.guard := ⟨_, rfl⟩
  rw [← hL2] at hb1 hb2 hb4 T
  have n2' : L2.length ≤ 301000 := by rw [hL2]; simp; omega
  repeat (first
    | (((with_reducible refine Sy.is_load ?_); (refine Sy.st_loadOne T F (h := ?_)); clear T; intro ac T))
    | (((with_reducible refine Sy.is_buildSlice ?_); refine Sy.st_buildSlice T F (h := ?_); (conv => whnf); (repeat (refine ⟨by first | exact rfl | exact ⟨rfl, rfl⟩, ?_⟩; (conv => whnf))); clear T F; intro ac g w T F))
    | (((with_reducible refine Sy.is_op ?_); refine Sy.st_pure T (h := ?_); clear T; intro ac T))
    | (with_reducible refine wp_region_lit ?_)
    | ((with_reducible refine wp_seq_k ?_); intro _ _)
    | (go_at_K; go_step)
    | (simp only [Exit.then, Exit.inBlock, ↓reduceIte, Nat.reduceEqDiff])
    | ((refine Sy.sx_plain (h := ?_)); ((refine Sy.sx_pure T (h := ?_); clear T; intro ac T)); show Sy.wpUx _ _ _ _ _ _ _ _ _)
    | (with_reducible refine Sy.sx_nil ?_)
    | (with_reducible refine Sy.sx_end ?_))
  have hF := F.size
  have hU := ints_own (ns := [r.sets.length]) (F.get Sy.Take.here) rfl
  have G := callsF F.sub (nums_any (cap := bc) (c2 := 1) _ (hb1.sub F.sub) hU (by simp) (by simp; omega) (by simp) (by first | omega | (simp only [List.length_append, List.flatMap_cons, List.flatMap_nil, List.append_nil]; omega))); refine Sy.st_callM0 T F (hc := G) (h := ?_); (clear T F G; intro v m ac w hR hS T F)
  clear hU hb1 hb2 hb3 hb4
  obtain ⟨ba, bc, rfl, hb1, hb2, hb3, hb4⟩ := hR.base hF
  have hSc := hS
  have hr3 := ((hr.sub hSa).sub hSb).sub hSc
  obtain ⟨L3, hL3⟩ : ∃ L, L = L2 ++ [r.sets.length].flatMap numB := ⟨_, rfl⟩
  rw [← hL3] at hb1 hb2 hb4 T
  have n3' : L3.length ≤ 302000 := by rw [hL3]; simp; omega
  obtain ⟨b6, rfl⟩ := Rt.name1 T 6 rfl
  have hv3 : BytF W0.heap.size L3 m (.slice ba L3.length bc) := ⟨ba, bc, rfl, hb1, hb2, hb3, hb4⟩
  clear hb1 hb2 hb3 hb4
  repeat (first
    | (((with_reducible refine Sy.is_load ?_); (refine Sy.st_loadOne T F (h := ?_)); clear T; intro ac T))
    | (((with_reducible refine Sy.is_op ?_); refine Sy.st_pure T (h := ?_); clear T; intro ac T))
    | (with_reducible refine wpList_nil ?_)
    | (with_reducible refine wp_region_lit ?_)
    | (with_reducible refine wp_block ?_)
    | ((with_reducible refine wp_seq_k ?_); intro _ _)
    | (go_at_K; go_step)
    | (simp only [Exit.then, Exit.inBlock, ↓reduceIte, Nat.reduceEqDiff]))
  refine wp_loop_ghost_k (fun n1 ac w' => ∃ j m' v, n1 = r.sets.length - j ∧ j ≤ r.sets.length ∧ Sub m m' ∧ BytF W0.heap.size (L3 ++ (r.sets.take j).flatMap setB) m' v ∧ Sy.Tm ac 93 [(4, v), (6, .pointer (some ⟨b6, 0, none⟩)), (24, .slice (some ⟨rb, ro, none⟩) t.rules.length tc), (25, .int .i64 (t.rules.length : Int)), (26, .int .i64 (k : Int)), (51, .slice sa r.sets.length sc), (52, .int .i64 (r.sets.length : Int)), (53, .int .i64 (j : Int))] ∧ Sy.Mem ⟨W0, [], W0⟩ m' [⟨b6, ruleCs r ⟨ga, gc, sa, sc, ea, ec⟩, 76⟩] w') r.sets.length ?_ ?_
  · exact ⟨0, m, _, rfl, Nat.zero_le _, Sub.refl _, by simpa using hv3, (T.part (by repeat (first | exact Sy.Part.nil | apply Sy.Part.cons rfl))), (F.sel (by repeat (first | exact Sy.Sel.nil | apply Sy.Sel.cons (by repeat (first | exact Sy.Take.here | apply Sy.Take.there)))))⟩
  clear T F hv3
  intro n1 ac w hI J2 K2 hJ2 hK2
  obtain ⟨j, m2, v2, rfl, hj, h2S, hv2, T, F⟩ := hI
  have hdj := fm_lt (f := setB) (c := 600) hir.ns (fun s hs => set_len (hir.sets s hs)) j
  obtain ⟨ba, bc, rfl, hb1, hb2, hb3, hb4⟩ := hv2
  by_cases hjl : j < r.sets.length
  · have u1 : decide ((j : Int) < (r.sets.length : Int)) = true := decide_eq_true (by omega)
    have u2 : IntKind.i64.wrap ((j : Int) + 1) = ((j + 1 : Nat) : Int) := by rw [i64_wrap (by omega) (by omega)]; omega
    have hup2 := fm_up (f := setB) hjl
    have his := hir.sets _ (List.getElem_mem hjl)
    obtain ⟨xb, xo, row2, hra2, hrl2, hat2, hrow2⟩ := rows_get (hr3.sub h2S).sets hjl
    generalize r.sets[j] = x at *
    obtain ⟨xa, xc, rfl, x1, x2⟩ := hrow2
    replace hra2 : sa = _ := hra2
    subst hra2
    obtain ⟨y1, hy1⟩ := Int.eq_ofNat_of_zero_le his.1.1
    have z1 := numB_len (n := y1) (by have := his.1.2; omega)
    have hyl := his.1.2
    repeat (first
    | (((with_reducible refine Sy.is_load ?_); (refine Sy.st_oldAgg T F (h := ?_)); clear T; intro ac T))
    | (((with_reducible refine Sy.is_store ?_); (refine Sy.st_storeAll T F (h := ?_)); clear T F; intro ac w T F))
    | (((with_reducible refine Sy.is_alloc ?_); refine Sy.st_alloc T F (h := ?_); clear T F; intro ac g w T F))
    | (((with_reducible refine Sy.is_op ?_); refine Sy.st_pure T (h := ?_); clear T; intro ac T))
    | ((with_reducible refine Sy.is_cond ?_); (refine Sy.st_true T (h := ?_)))
    | (with_reducible refine wpList_nil ?_)
    | (with_reducible refine wp_region_lit ?_)
    | (with_reducible refine wp_block ?_)
    | (with_reducible refine wp_skip ?_)
    | ((with_reducible refine wp_seq_k ?_); intro _ _)
    | (go_at_K; go_step)
    | (simp only [Exit.then, Exit.inBlock, ↓reduceIte, Nat.reduceEqDiff])
    | ((with_reducible refine Sy.is_drawn (id := 12) ?_); refine Sy.sx_region F [] (.t 0 (.t 1 (.t 2 (.t 5 (.t 6 (.h 3 (.h 4 (.h 7 (.t 8 .e))))))))) [] (by kernel_rfl) ?_; (clear F; intro w F))
    | ((refine Sy.sx_plain (h := ?_)); (first
    | ((with_reducible refine Sy.ux_load ?_); (refine Sy.sx_val (Sy.rx_loadOne T F) T rfl ?_); clear T; intro ac T)
    | (refine Sy.sx_pure T (h := ?_); clear T; intro ac T)); show Sy.wpUx _ _ _ _ _ _ _ _ _)
    | (refine Sy.sx_buildSlice (T := T) (F := F) (h := ?_); (conv => whnf); (repeat (refine ⟨by first | exact rfl | exact ⟨rfl, rfl⟩, ?_⟩; (conv => whnf))); clear T F; intro ac g w T F))
    have hF := F.size
    have hU := ints_own (ns := [y1]) (F.get Sy.Take.here) (by simp [hy1])
    have G := callsF F.sub (nums_any (cap := bc) (c2 := 1) _ (hb1.sub F.sub) hU (by simp) (by simp; omega) (by simp) (by first | omega | (simp only [List.length_append, List.flatMap_cons, List.flatMap_nil, List.append_nil]; omega))); refine Sy.sx_callM0 rfl T F (hc := G) (h := ?_); (clear T F G; intro v m ac w hR hS T F)
    clear hU hb1 hb2 hb3 hb4
    obtain ⟨ba, bc, rfl, hb1, hb2, hb3, hb4⟩ := hR.base hF
    have hSd := hS
    skip
    have hF := F.size
    have G := callsF F.sub (formula_any (cap := bc) (c2 := xc) _ (hb1.sub F.sub) ((x2.sub hSd).sub F.sub) his.2 (by first | omega | (simp only [List.length_append, List.flatMap_cons, List.flatMap_nil, List.append_nil]; omega))); refine Sy.sx_callM0 rfl T F (hc := G) (h := ?_); (clear T F G; intro v m ac w hR hS T F)
    clear hb1 hb2 hb3 hb4
    obtain ⟨ba, bc, rfl, hb1, hb2, hb3, hb4⟩ := hR.base hF
    repeat (first
    | (((with_reducible refine Sy.is_op ?_); refine Sy.st_pure T (h := ?_); clear T; intro ac T))
    | (with_reducible refine wpList_nil ?_)
    | (with_reducible refine wp_region_lit ?_)
    | (go_at_K; go_step)
    | (simp only [Exit.then, Exit.inBlock, ↓reduceIte, Nat.reduceEqDiff])
    | ((refine Sy.sx_plain (h := ?_)); ((refine Sy.sx_pure T (h := ?_); clear T; intro ac T)); show Sy.wpUx _ _ _ _ _ _ _ _ _)
    | (with_reducible refine Sy.sx_nil ?_)
    | (with_reducible refine Sy.sx_end ?_))
    have e : L3 ++ (r.sets.take j).flatMap setB ++ [y1].flatMap numB ++ formB x.val = L3 ++ (r.sets.take (j + 1)).flatMap setB := by
      rw [hup2]
      unfold setB
      rw [hy1]
      simp
    rw [e] at hb1 hb2 hb4 T
    exact Sy.handed hJ2 (k := r.sets.length - (j + 1)) (by omega) ⟨j + 1, m, _, rfl, by omega, (h2S.trans hSd).trans hS, ⟨ba, bc, rfl, hb1, hb2, hb3, hb4⟩, (T.part (by repeat (first | exact Sy.Part.nil | apply Sy.Part.cons rfl))), (F.sel (by repeat (first | exact Sy.Sel.nil | apply Sy.Sel.cons (by repeat (first | exact Sy.Take.here | apply Sy.Take.there)))))⟩
  obtain rfl : j = r.sets.length := by omega
  have u1 : decide ((r.sets.length : Int) < (r.sets.length : Int)) = false := decide_eq_false (by omega)
  rw [List.take_length] at hb1 hb2 hb4 hdj T
  obtain ⟨L4, hL4⟩ : ∃ L, L = L3 ++ r.sets.flatMap setB := ⟨_, rfl⟩
  rw [← hL4] at hb1 hb2 hb4 T
  have n4' : L4.length ≤ 310000 := by rw [hL4, List.length_append]; omega
  repeat (first
    | (((with_reducible refine Sy.is_load ?_); (refine Sy.st_loadOne T F (h := ?_)); clear T; intro ac T))
    | (((with_reducible refine Sy.is_buildSlice ?_); refine Sy.st_buildSlice T F (h := ?_); (conv => whnf); (repeat (refine ⟨by first | exact rfl | exact ⟨rfl, rfl⟩, ?_⟩; (conv => whnf))); clear T F; intro ac g w T F))
    | (((with_reducible refine Sy.is_op ?_); refine Sy.st_pure T (h := ?_); clear T; intro ac T))
    | ((with_reducible refine Sy.is_cond ?_); (refine Sy.st_false T (h := ?_)))
    | (with_reducible refine wpList_nil ?_)
    | (with_reducible refine wp_region_lit ?_)
    | (with_reducible refine wp_exit ?_)
    | ((with_reducible refine wp_seq_k ?_); intro _ _)
    | (go_at_K; go_step)
    | (simp only [Exit.then, Exit.inBlock, ↓reduceIte, Nat.reduceEqDiff]))
  have hF := F.size
  have hU := ints_own (ns := [r.emits.length]) (F.get Sy.Take.here) rfl
  have G := callsF F.sub (nums_any (cap := bc) (c2 := 1) _ (hb1.sub F.sub) hU (by simp) (by simp; omega) (by simp) (by first | omega | (simp only [List.length_append, List.flatMap_cons, List.flatMap_nil, List.append_nil]; omega))); refine Sy.st_callM0 T F (hc := G) (h := ?_); (clear T F G; intro v m ac w hR hS T F)
  clear hU hb1 hb2 hb3 hb4
  obtain ⟨ba, bc, rfl, hb1, hb2, hb3, hb4⟩ := hR.base hF
  have hSe := hS
  have hr5 := (hr3.sub h2S).sub hSe
  obtain ⟨L5, hL5⟩ : ∃ L, L = L4 ++ [r.emits.length].flatMap numB := ⟨_, rfl⟩
  rw [← hL5] at hb1 hb2 hb4 T
  have n5' : L5.length ≤ 311000 := by rw [hL5]; simp; omega
  have hv5 : BytF W0.heap.size L5 m (.slice ba L5.length bc) := ⟨ba, bc, rfl, hb1, hb2, hb3, hb4⟩
  clear hb1 hb2 hb3 hb4
  repeat (first
    | (((with_reducible refine Sy.is_load ?_); (refine Sy.st_loadOne T F (h := ?_)); clear T; intro ac T))
    | (((with_reducible refine Sy.is_op ?_); refine Sy.st_pure T (h := ?_); clear T; intro ac T))
    | (with_reducible refine wpList_nil ?_)
    | (with_reducible refine wp_region_lit ?_)
    | (with_reducible refine wp_block ?_)
    | ((with_reducible refine wp_seq_k ?_); intro _ _)
    | (go_at_K; go_step)
    | (simp only [Exit.then, Exit.inBlock, ↓reduceIte, Nat.reduceEqDiff]))
  have h0S := ((((h1S.trans hSa).trans hSb).trans hSc).trans h2S).trans hSe
  refine wp_loop_ghost_k (fun n1 ac w' => ∃ j m' v, n1 = r.emits.length - j ∧ j ≤ r.emits.length ∧ Sub m m' ∧ BytF W0.heap.size (L5 ++ (r.emits.take j).flatMap emitB) m' v ∧ Sy.Tm ac 93 [(4, v), (6, .pointer (some ⟨b6, 0, none⟩)), (24, .slice (some ⟨rb, ro, none⟩) t.rules.length tc), (25, .int .i64 (t.rules.length : Int)), (26, .int .i64 (k : Int)), (73, .slice ea r.emits.length ec), (74, .int .i64 (r.emits.length : Int)), (75, .int .i64 (j : Int))] ∧ Sy.Mem ⟨W0, [], W0⟩ m' [⟨b6, ruleCs r ⟨ga, gc, sa, sc, ea, ec⟩, 76⟩] w') r.emits.length ?_ ?_
  · exact ⟨0, m, _, rfl, Nat.zero_le _, Sub.refl _, by simpa using hv5, (T.part (by repeat (first | exact Sy.Part.nil | apply Sy.Part.cons rfl))), (F.sel (by repeat (first | exact Sy.Sel.nil | apply Sy.Sel.cons (by repeat (first | exact Sy.Take.here | apply Sy.Take.there)))))⟩
  clear T F hv5 hJ2 hK2
  intro n1 ac w hI J2 K2 hJ2 hK2
  obtain ⟨j, m3, v3, rfl, hj, h3S, hv3, T, F⟩ := hI
  have hdj := fm_lt (f := emitB) (c := 600) hir.ne (fun s hs => emit_len (hir.emits s hs)) j
  obtain ⟨ba, bc, rfl, hb1, hb2, hb3, hb4⟩ := hv3
  by_cases hjl : j < r.emits.length
  · have u1 : decide ((j : Int) < (r.emits.length : Int)) = true := decide_eq_true (by omega)
    have u2 : IntKind.i64.wrap ((j : Int) + 1) = ((j + 1 : Nat) : Int) := by rw [i64_wrap (by omega) (by omega)]; omega
    have hup2 := fm_up (f := emitB) hjl
    have his := hir.emits _ (List.getElem_mem hjl)
    obtain ⟨xb, xo, row2, hra2, hrl2, hat2, hrow2⟩ := rows_get (hr5.sub h3S).emits hjl
    generalize r.emits[j] = x at *
    obtain ⟨xa, xc, rfl, x0, x1, x2⟩ := hrow2
    replace hra2 : ea = _ := hra2
    subst hra2
    obtain ⟨y1, hy1⟩ := Int.eq_ofNat_of_zero_le his.2.1.1
    have hyl := his.2.1.2
    have hxt := his.1
    have z1 := numB_len (n := y1) (by omega)
    have z2 := numB_len (n := x.target) (by omega)
    have c1 : IntKind.i64.wrap (x.target : Int) = (x.target : Int) := by rw [i64_wrap (by omega) (by omega)]
    repeat (first
    | (((with_reducible refine Sy.is_load ?_); (refine Sy.st_oldAgg T F (h := ?_)); clear T; intro ac T))
    | (((with_reducible refine Sy.is_store ?_); (refine Sy.st_storeAll T F (h := ?_)); clear T F; intro ac w T F))
    | (((with_reducible refine Sy.is_alloc ?_); refine Sy.st_alloc T F (h := ?_); clear T F; intro ac g w T F))
    | (((with_reducible refine Sy.is_op ?_); refine Sy.st_pure T (h := ?_); clear T; intro ac T))
    | ((with_reducible refine Sy.is_cond ?_); (refine Sy.st_true T (h := ?_)))
    | (with_reducible refine wpList_nil ?_)
    | (with_reducible refine wp_region_lit ?_)
    | (with_reducible refine wp_block ?_)
    | (with_reducible refine wp_skip ?_)
    | ((with_reducible refine wp_seq_k ?_); intro _ _)
    | (go_at_K; go_step)
    | (simp only [Exit.then, Exit.inBlock, ↓reduceIte, Nat.reduceEqDiff])
    | ((with_reducible refine Sy.is_drawn (id := 18) ?_); refine Sy.sx_region F [] (.t 0 (.t 1 (.t 2 (.t 3 (.t 4 (.t 5 (.t 8 (.t 9 (.h 6 (.h 7 (.h 10 (.t 11 .e)))))))))))) [] (by kernel_rfl) ?_; (clear F; intro w F))
    | ((refine Sy.sx_plain (h := ?_)); (first
    | ((with_reducible refine Sy.ux_load ?_); (refine Sy.sx_val (Sy.rx_loadOne T F) T rfl ?_); clear T; intro ac T)
    | (refine Sy.sx_pure T (h := ?_); clear T; intro ac T)); show Sy.wpUx _ _ _ _ _ _ _ _ _)
    | (refine Sy.sx_buildSlice (T := T) (F := F) (h := ?_); (conv => whnf); (repeat (refine ⟨by first | exact rfl | exact ⟨rfl, rfl⟩, ?_⟩; (conv => whnf))); clear T F; intro ac g w T F))
    have hF := F.size
    have hU := ints_own (ns := [x.target, y1]) (F.get Sy.Take.here) (by simp [hy1])
    have G := callsF F.sub (nums_any (cap := bc) (c2 := 2) _ (hb1.sub F.sub) hU (by simp) (by simp; omega) (by simp) (by first | omega | (simp only [List.length_append, List.flatMap_cons, List.flatMap_nil, List.append_nil]; omega))); refine Sy.sx_callM0 rfl T F (hc := G) (h := ?_); (clear T F G; intro v m ac w hR hS T F)
    clear hU hb1 hb2 hb3 hb4
    obtain ⟨ba, bc, rfl, hb1, hb2, hb3, hb4⟩ := hR.base hF
    have hSd := hS
    skip
    have hF := F.size
    have G := callsF F.sub (formula_any (cap := bc) (c2 := xc) _ (hb1.sub F.sub) ((x2.sub hSd).sub F.sub) his.2.2 (by first | omega | (simp only [List.length_append, List.flatMap_cons, List.flatMap_nil, List.append_nil]; omega))); refine Sy.sx_callM0 rfl T F (hc := G) (h := ?_); (clear T F G; intro v m ac w hR hS T F)
    clear hb1 hb2 hb3 hb4
    obtain ⟨ba, bc, rfl, hb1, hb2, hb3, hb4⟩ := hR.base hF
    repeat (first
    | (((with_reducible refine Sy.is_op ?_); refine Sy.st_pure T (h := ?_); clear T; intro ac T))
    | (with_reducible refine wpList_nil ?_)
    | (with_reducible refine wp_region_lit ?_)
    | (go_at_K; go_step)
    | (simp only [Exit.then, Exit.inBlock, ↓reduceIte, Nat.reduceEqDiff])
    | ((refine Sy.sx_plain (h := ?_)); ((refine Sy.sx_pure T (h := ?_); clear T; intro ac T)); show Sy.wpUx _ _ _ _ _ _ _ _ _)
    | (with_reducible refine Sy.sx_nil ?_)
    | (with_reducible refine Sy.sx_end ?_))
    have e : L5 ++ (r.emits.take j).flatMap emitB ++ [x.target, y1].flatMap numB ++ formB x.arg = L5 ++ (r.emits.take (j + 1)).flatMap emitB := by
      rw [hup2]
      unfold emitB
      rw [hy1]
      simp
    rw [e] at hb1 hb2 hb4 T
    exact Sy.handed hJ2 (k := r.emits.length - (j + 1)) (by omega) ⟨j + 1, m, _, rfl, by omega, (h3S.trans hSd).trans hS, ⟨ba, bc, rfl, hb1, hb2, hb3, hb4⟩, (T.part (by repeat (first | exact Sy.Part.nil | apply Sy.Part.cons rfl))), (F.sel (by repeat (first | exact Sy.Sel.nil | apply Sy.Sel.cons (by repeat (first | exact Sy.Take.here | apply Sy.Take.there)))))⟩
  obtain rfl : j = r.emits.length := by omega
  have u1 : decide ((r.emits.length : Int) < (r.emits.length : Int)) = false := decide_eq_false (by omega)
  have e : L5 ++ r.emits.flatMap emitB = L0 ++ (t.rules.take (k + 1)).flatMap ruleB := by
    rw [hup, hL5, hL4, hL3, hL2, hL1]
    unfold ruleB
    rw [hf1, hf2, hf3, hf4]
    simp
  rw [List.take_length, e] at hb1 hb2 hb4 T
  repeat (first
    | (((with_reducible refine Sy.is_op ?_); refine Sy.st_pure T (h := ?_); clear T; intro ac T))
    | ((with_reducible refine Sy.is_cond ?_); (refine Sy.st_false T (h := ?_)))
    | (with_reducible refine wpList_nil ?_)
    | (with_reducible refine wp_region_lit ?_)
    | (with_reducible refine wp_exit ?_)
    | ((with_reducible refine wp_seq_k ?_); intro _ _)
    | (go_at_K; go_step)
    | (simp only [Exit.then, Exit.inBlock, ↓reduceIte, Nat.reduceEqDiff]))
  exact Sy.handed hJ1 (k := t.rules.length - (k + 1)) (by omega) ⟨k + 1, m3, _, rfl, by omega, h0S.trans h3S, ⟨ba, bc, rfl, hb1, hb2, hb3, hb4⟩, (T.part (by repeat (first | exact Sy.Part.nil | apply Sy.Part.cons rfl))), (F.sel (by repeat (first | exact Sy.Sel.nil | apply Sy.Sel.cons (by repeat (first | exact Sy.Take.here | apply Sy.Take.there)))))⟩
end Tk
end Go.Proofs.Ytniopkoaplkpkaa
