/- The walk of the document's Put. Conditions: the contract can be read. Printed by a program (gentkt.py). -/
import Derived.Test.YtniopkoaplkpkaaTkS
import Derived.Test.YtniopkoaplkpkaaTbQ
namespace Go.Proofs.Ytniopkoaplkpkaa
open Go.RowKit
set_option linter.unusedVariables false
set_option linter.unusedSimpArgs false
namespace Tk
open Sy (RetV RetM Sub HandO RetO)
open Rg (eqT eqF i64_wrap I64 U8 fm_up)
open Pk (numB numB_len zig zig_lt refNumF refIntF)
open Tb (SetD EmitD RuleD TabD SetR EmitR RuleR RuleA RuleAt ruleCs tabCs TabAt)
theorem fm_lts {α : Type} {f : α → List UInt8} {c n : Nat} {l : List α} (hn : l.length ≤ n) (h : ∀ x ∈ l, (f x).length ≤ c) (k : Nat) : ((l.take k).flatMap f).length ≤ c * n := by
  have q := Rg.fm_len (f := f) (c := c) (l := l.take k) fun x hx => h x (List.mem_of_mem_take hx)
  have q2 : (l.take k).length ≤ n := by rw [List.length_take]; omega
  exact Nat.le_trans q (Nat.mul_le_mul_left _ q2)
/-- bytes that the call owns stand still from now on -/
theorem bytF_own {E1 : Sy.Ext} {W m0 m w : World} {bs : List Sy.Blk} {a : Option Addr} {cap : Nat} {l : List UInt8} (F : Sy.MemE (Sy.SlA E1 5 1 (.slice a l.length cap) l.length (l.map bv)) ⟨W, [], m0⟩ m bs w) (hl : 0 < l.length) :
    ∃ m', Sub m m' ∧ Sy.MemE E1 ⟨W, [], m0⟩ m' bs w ∧ BytF W.heap.size l m' (.slice a l.length cap) := by
  obtain ⟨m', hS, F', hcells⟩ := F.freeze
  obtain ⟨a', cap', hv, hxl, hn, hm, hcase⟩ := F.ext.2.1
  simp at hv
  obtain ⟨rfl, rfl⟩ := hv
  refine ⟨m', hS, F', a, cap, rfl, ⟨rfl, Nat.le_trans hn hm, hcells a cap rfl⟩, hn, hm, .inr fun ad had => ?_⟩
  rcases hcase with hc | ⟨g, cur, ha, _⟩
  · omega
  · subst ha
    cases had
    exact (F.loose g (.inr (Sy.blk_of (by omega) rfl))).1.resolve_right (by simp)
set_option maxRecDepth 20000 in
set_option maxHeartbeats 1000000 in
theorem rput_no (w : World) (t : TabD) (ta : Option Addr) (tc : Nat) (h : TabAt w t ta tc) (hm : Tb.mayS t = false) :
    Calls Try.prog 13 #[.agg (tabCs t ta tc).toArray] w (RetM w w (BytP w.heap.size [] 10)) := by
  have F := Sy.Mem.start (Sub.refl w)
  refine Sy.enter Try.func13 rfl Try.ntmps13 rfl ?_; intro ac T; simp only [Sy.enum, Nat.zero_add, Nat.reduceAdd] at T
  repeat (first
    | (((with_reducible refine Sy.is_load ?_); (refine Sy.st_loadAll T F (h := ?_)); clear T; intro ac T))
    | (((with_reducible refine Sy.is_box ?_); (refine Sy.st_boxAgg T F (h := ?_)); clear T F; intro ac g w T F))
    | (((with_reducible refine Sy.is_op ?_); refine Sy.st_pure T (h := ?_); clear T; intro ac T))
    | (with_reducible refine wpList_nil ?_)
    | (with_reducible refine wp_region_lit ?_)
    | ((with_reducible refine wp_seq_k ?_); intro _ _)
    | (go_at_K; go_step)
    | (simp only [Exit.then, Exit.inBlock, ↓reduceIte, Nat.reduceEqDiff]))
  refine Sy.st_callV0 T F (hc := Tb.mayRM F.sub h hm) (h := ?_); (clear T F; intro ac w T F)
  repeat (first
    | (((with_reducible refine Sy.is_buildSlice ?_); refine Sy.st_buildSlice T F (h := ?_); (conv => whnf); (repeat (refine ⟨by first | exact rfl | exact ⟨rfl, rfl⟩, ?_⟩; (conv => whnf))); clear T F; intro ac g w T F))
    | (((with_reducible refine Sy.is_op ?_); refine Sy.st_pure T (h := ?_); clear T; intro ac T))
    | ((with_reducible refine Sy.is_cond ?_); (refine Sy.st_true T (h := ?_)))
    | (with_reducible refine wpList_nil ?_)
    | (with_reducible refine wp_region_lit ?_)
    | (with_reducible refine wp_ret ?_)
    | ((with_reducible refine wp_seq_k ?_); intro _ _)
    | (go_at_K; go_step)
    | (simp only [Exit.then, Exit.inBlock, ↓reduceIte, Nat.reduceEqDiff]))
  ((try simp only [Exit.inBlock, Exit.then]); refine Sy.st_ret2 T F rfl (by repeat (first | exact Sy.ResV.nil | apply Sy.ResV.tmp rfl | apply Sy.ResV.row rfl rfl rfl (by repeat (first | exact Sy.Take.here | apply Sy.Take.there)) (by rfl) | apply Sy.ResV.one rfl rfl rfl (by repeat (first | exact Sy.Take.here | apply Sy.Take.there)) (by rfl))) ?_)
  exact F.retM ⟨_, rfl, _, 0, rfl, Bytes.nil _ _, Nat.le_refl _, Nat.zero_le _, .inl rfl⟩
set_option maxRecDepth 20000 in
set_option maxHeartbeats 8000000 in
theorem rput_yes (W0 : World) (t : TabD) (ta : Option Addr) (tc : Nat) (h : TabAt W0 t ta tc) (hm : Tb.mayS t = true) :
    Calls Try.prog 13 #[.agg (tabCs t ta tc).toArray] W0 (RetM W0 W0 (BytP W0.heap.size (tabB t) 0)) := by
  have F := Sy.Mem.start (Sub.refl W0)
  have hi := tabIn h hm
  have q1 := hi.states
  have q2 := hi.vars
  have q3 := hi.nr
  obtain ⟨n1, hn1⟩ := Int.eq_ofNat_of_zero_le q1.1
  obtain ⟨n2, hn2⟩ := Int.eq_ofNat_of_zero_le q2.1
  have b1 := numB_len (n := n1) (by omega)
  have b2 := numB_len (n := n2) (by omega)
  have b3 := numB_len (n := t.rules.length) (by omega)
  refine Sy.enter Try.func13 rfl Try.ntmps13 rfl ?_; intro ac T; simp only [Sy.enum, Nat.zero_add, Nat.reduceAdd] at T
  repeat (first
    | (((with_reducible refine Sy.is_load ?_); (refine Sy.st_loadAll T F (h := ?_)); clear T; intro ac T))
    | (((with_reducible refine Sy.is_box ?_); (refine Sy.st_boxAgg T F (h := ?_)); clear T F; intro ac g w T F))
    | (((with_reducible refine Sy.is_op ?_); refine Sy.st_pure T (h := ?_); clear T; intro ac T))
    | (with_reducible refine wpList_nil ?_)
    | (with_reducible refine wp_region_lit ?_)
    | ((with_reducible refine wp_seq_k ?_); intro _ _)
    | (go_at_K; go_step)
    | (simp only [Exit.then, Exit.inBlock, ↓reduceIte, Nat.reduceEqDiff]))
  refine Sy.st_callV0 T F (hc := Tb.mayRM F.sub h hm) (h := ?_); (clear T F; intro ac w T F)
  have hts : tabCs t ta tc = [.int .i64 (n1 : Int), .int .i64 (n2 : Int), .slice ta t.rules.length tc] := by unfold tabCs; rw [hn1, hn2]
  rw [hts] at F T
  repeat (first
    | (((with_reducible refine Sy.is_op ?_); refine Sy.st_pure T (h := ?_); clear T; intro ac T))
    | ((with_reducible refine Sy.is_cond ?_); (refine Sy.st_false T (h := ?_)))
    | (with_reducible refine wpList_nil ?_)
    | (with_reducible refine wp_skip ?_)
    | ((with_reducible refine wp_seq_k ?_); intro _ _)
    | (go_at_K; go_step)
    | (simp only [Exit.then, Exit.inBlock, ↓reduceIte, Nat.reduceEqDiff])
    | ((with_reducible refine Sy.is_drawn (id := 3) ?_); refine Sy.sx_region F [] (.t 1 (.t 2 (.t 4 (.t 5 (.t 7 (.t 8 (.t 9 (.h 0 (.h 3 (.h 6 (.h 10 (.t 11 .e)))))))))))) [] (by kernel_rfl) ?_; (clear F; intro w F))
    | ((refine Sy.sx_plain (h := ?_)); (first
    | ((with_reducible refine Sy.ux_load ?_); (refine Sy.sx_val (Sy.rx_loadOne T F) T rfl ?_); clear T; intro ac T)
    | (refine Sy.sx_pure T (h := ?_); clear T; intro ac T)); show Sy.wpUx _ _ _ _ _ _ _ _ _)
    | (refine Sy.sx_buildSlice (T := T) (F := F) (h := ?_); (conv => whnf); (repeat (refine ⟨by first | exact rfl | exact ⟨rfl, rfl⟩, ?_⟩; (conv => whnf))); clear T F; intro ac g w T F))
  replace F := F.takeSl Sy.Take.here (n := 0) (size := 1) (by rfl) (by decide)
  replace F : Sy.MemE (Sy.SlA Sy.E0 5 1 (.slice _ ([] : List UInt8).length 0) ([] : List UInt8).length (([] : List UInt8).map bv)) ⟨W0, [], W0⟩ W0 _ _ := F
  refine Sy.sx_callOX rfl T F (fun q hq => (Sy.blk_zero _ q hq).elim) (hc := rnum_any W0 _ F.handO n1 (by omega) (by first | omega | (simp only [List.length_append, List.length_nil]; omega) | (simp; done))) (h := ?_)
  clear T F; intro v X1 ac w hX T F
  obtain ⟨a1, cap1, rfl⟩ := own_slice F.ext.2.1
  skip
  refine Sy.sx_callOX rfl T F hX (hc := rnum_any W0 _ F.handO n2 (by omega) (by first | omega | (simp only [List.length_append, List.length_nil]; omega) | (simp; done))) (h := ?_)
  clear T F; intro v X1 ac w hX T F
  obtain ⟨a1, cap1, rfl⟩ := own_slice F.ext.2.1
  skip
  refine Sy.sx_callOX rfl T F hX (hc := rnum_any W0 _ F.handO t.rules.length (by omega) (by first | omega | (simp only [List.length_append, List.length_nil]; omega) | (simp; done))) (h := ?_)
  clear T F; intro v X1 ac w hX T F
  obtain ⟨a1, cap1, rfl⟩ := own_slice F.ext.2.1
  repeat (first
    | (((with_reducible refine Sy.is_load ?_); (refine Sy.st_loadOne T F (h := ?_)); clear T; intro ac T))
    | (((with_reducible refine Sy.is_op ?_); refine Sy.st_pure T (h := ?_); clear T; intro ac T))
    | (with_reducible refine wpList_nil ?_)
    | (with_reducible refine wp_region_lit ?_)
    | (with_reducible refine wp_block ?_)
    | ((with_reducible refine wp_seq_k ?_); intro _ _)
    | (go_at_K; go_step)
    | (simp only [Exit.then, Exit.inBlock, ↓reduceIte, Nat.reduceEqDiff])
    | ((refine Sy.sx_plain (h := ?_)); ((refine Sy.sx_pure T (h := ?_); clear T; intro ac T)); show Sy.wpUx _ _ _ _ _ _ _ _ _)
    | (with_reducible refine Sy.sx_nil ?_)
    | (with_reducible refine Sy.sx_end ?_))
  obtain ⟨b1', rfl⟩ := Rt.name1 T 1 rfl
  obtain ⟨L0, hL0⟩ : ∃ L, L = [] ++ numB n1 ++ numB n2 ++ numB t.rules.length := ⟨_, rfl⟩
  rw [← hL0] at T F
  have hL0n : L0.length ≤ 30 := by
    rw [hL0]
    simp
    omega
  have hfin : L0 ++ t.rules.flatMap ruleB = tabB t := by
    rw [hL0]
    unfold tabB
    rw [hn1, hn2]
    simp
  refine wp_loop_ghost_k (fun n0 ac w' => ∃ k L a1 cap1, n0 = t.rules.length - k ∧ k ≤ t.rules.length ∧ L = L0 ++ (t.rules.take k).flatMap ruleB ∧ Sy.Tm ac 116 [(1, .pointer (some ⟨b1', 0, none⟩)), (4, .slice a1 L.length cap1), (26, .int .i64 (t.rules.length : Int)), (27, .int .i64 (k : Int))] ∧ Sy.MemE (Sy.SlA Sy.E0 5 1 (.slice a1 L.length cap1) L.length (L.map bv)) ⟨W0, [], W0⟩ W0 [⟨b1', [.int .i64 (n1 : Int), .int .i64 (n2 : Int), .slice ta t.rules.length tc], 24⟩] w') t.rules.length ?_ ?_
  · exact ⟨0, L0, _, _, rfl, Nat.zero_le _, by simp, (T.part (by repeat (first | exact Sy.Part.nil | apply Sy.Part.cons rfl))), (F.sel (by repeat (first | exact Sy.Sel.nil | apply Sy.Sel.cons (by repeat (first | exact Sy.Take.here | apply Sy.Take.there)))))⟩
  clear T F hX
  intro n0 ac w hI J1 K1 hJ1 hK1
  obtain ⟨k, L1, a1, cap1, rfl, hk, hL1, T, F⟩ := hI
  have hdk := fm_lts (f := ruleB) (c := 9000) hi.nr (fun r hr => rule_len (hi.rules r hr)) k
  have n1' : L1.length ≤ 300000 := by rw [hL1, List.length_append]; omega
  by_cases hlt : k < t.rules.length
  case neg =>
    obtain rfl : k = t.rules.length := by omega
    have t1 : decide ((t.rules.length : Int) < (t.rules.length : Int)) = false := decide_eq_false (by omega)
    rw [List.take_length, hfin] at hL1
    subst hL1
    repeat (first
    | (((with_reducible refine Sy.is_op ?_); refine Sy.st_pure T (h := ?_); clear T; intro ac T))
    | ((with_reducible refine Sy.is_cond ?_); (refine Sy.st_false T (h := ?_)))
    | (with_reducible refine wpList_nil ?_)
    | (with_reducible refine wp_region_lit ?_)
    | (with_reducible refine wp_exit ?_)
    | (with_reducible refine wp_ret ?_)
    | ((with_reducible refine wp_seq_k ?_); intro _ _)
    | (go_at_K; go_step)
    | (simp only [Exit.then, Exit.inBlock, ↓reduceIte, Nat.reduceEqDiff]))
    obtain ⟨m', hS', F', hB⟩ := bytF_own F (by unfold tabB; have := Pk.numB_pos t.states.toNat; simp only [List.length_append]; omega)
    clear F
    have F := F'
    ((try simp only [Exit.inBlock, Exit.then]); refine Sy.st_ret2 T F rfl (by repeat (first | exact Sy.ResV.nil | apply Sy.ResV.tmp rfl | apply Sy.ResV.row rfl rfl rfl (by repeat (first | exact Sy.Take.here | apply Sy.Take.there)) (by rfl) | apply Sy.ResV.one rfl rfl rfl (by repeat (first | exact Sy.Take.here | apply Sy.Take.there)) (by rfl))) ?_)
    exact F.retM ⟨_, rfl, hB⟩
  have t1 : decide ((k : Int) < (t.rules.length : Int)) = true := decide_eq_true (by omega)
  have t2 : IntKind.i64.wrap ((k : Int) + 1) = ((k + 1 : Nat) : Int) := by rw [i64_wrap (by omega) (by omega)]; omega
  have hup := fm_up (f := ruleB) hlt
  have hir := hi.rules _ (List.getElem_mem hlt)
  obtain ⟨rb, ro, row, hra, hrl, hat, hrow⟩ := rows_get h.rules hlt
  generalize t.rules[k] = r at *
  obtain ⟨⟨ga, gc, sa, sc, ea, ec⟩, rfl, hr⟩ := hrow
  replace hra : ta = _ := hra
  subst hra
  have p1 := hir.src
  have p2 := hir.action
  have p3 := hir.party
  have p4 := hir.dst
  have p5 := hir.ns
  have p6 := hir.ne
  obtain ⟨f1, hf1⟩ := Int.eq_ofNat_of_zero_le p1.1
  obtain ⟨f2, hf2⟩ := Int.eq_ofNat_of_zero_le p2.1
  obtain ⟨f3, hf3⟩ := Int.eq_ofNat_of_zero_le p3.1
  obtain ⟨f4, hf4⟩ := Int.eq_ofNat_of_zero_le p4.1
  have g1 := numB_len (n := f1) (by omega)
  have g2 := numB_len (n := f2) (by omega)
  have g3 := numB_len (n := f3) (by omega)
  have g4 := numB_len (n := f4) (by omega)
  have g5 := form_len hir.guard
  have g6 := numB_len (n := r.sets.length) (by omega)
  have g7 := numB_len (n := r.emits.length) (by omega)
  have hrs : ruleCs r ⟨ga, gc, sa, sc, ea, ec⟩ = [.int .i64 (f1 : Int), .int .i64 (f2 : Int), .int .i64 (f3 : Int), .int .i64 (f4 : Int), .slice ga r.guard.length gc, .slice sa r.sets.length sc, .slice ea r.emits.length ec] := by unfold ruleCs; rw [hf1, hf2, hf3, hf4]
  rw [hrs] at hat
  repeat (first
    | (((with_reducible refine Sy.is_load ?_); (first
    | refine Sy.st_loadOne T F (h := ?_)
    | refine Sy.st_oldAgg T F (h := ?_)); clear T; intro ac T))
    | (((with_reducible refine Sy.is_store ?_); (refine Sy.st_storeAll T F (h := ?_)); clear T F; intro ac w T F))
    | (((with_reducible refine Sy.is_alloc ?_); refine Sy.st_alloc T F (h := ?_); clear T F; intro ac g w T F))
    | (((with_reducible refine Sy.is_op ?_); refine Sy.st_pure T (h := ?_); clear T; intro ac T))
    | ((with_reducible refine Sy.is_cond ?_); (refine Sy.st_true T (h := ?_)))
    | (with_reducible refine wpList_nil ?_)
    | (with_reducible refine wp_region_lit ?_)
    | (with_reducible refine wp_block ?_)
    | (with_reducible refine wp_skip ?_)
    | ((with_reducible refine wp_seq_k ?_); intro _ _)
    | (go_at_K; go_step)
    | (simp only [Exit.then, Exit.inBlock, ↓reduceIte, Nat.reduceEqDiff]))
  obtain ⟨b6, rfl⟩ := Rt.name1 T 6 rfl
  refine Sy.sx_region F ((blk (.slice a1 L1.length cap1)).toList) (.t 0 (.t 1 (.t 2 (.t 4 (.t 5 (.t 7 (.t 8 (.t 10 (.t 11 (.h 3 (.h 6 (.h 9 (.h 12 (.t 13 .e)))))))))))))) [] (by kernel_rfl) ?_; (clear F; intro w F)
  repeat (((refine Sy.sx_plain (h := ?_)); ((refine Sy.sx_pure T (h := ?_); clear T; intro ac T)); show Sy.wpUx _ _ _ _ _ _ _ _ _))
  refine Sy.sx_plain rfl rfl (Sy.sx_val (Sy.rx_loadOne T F (hX := (by intro hm; exact (F.loose _ (.inr (Option.mem_toList.1 hm))).2.1 (by simp)))) T rfl ?_); (clear T; intro ac T); show Sy.wpUx _ _ _ _ _ _ _ _ _
  repeat (((refine Sy.sx_plain (h := ?_)); ((refine Sy.sx_pure T (h := ?_); clear T; intro ac T)); show Sy.wpUx _ _ _ _ _ _ _ _ _))
  refine Sy.sx_plain rfl rfl (Sy.sx_val (Sy.rx_loadOne T F (hX := (by intro hm; exact (F.loose _ (.inr (Option.mem_toList.1 hm))).2.1 (by simp)))) T rfl ?_); (clear T; intro ac T); show Sy.wpUx _ _ _ _ _ _ _ _ _
  repeat (((refine Sy.sx_plain (h := ?_)); ((refine Sy.sx_pure T (h := ?_); clear T; intro ac T)); show Sy.wpUx _ _ _ _ _ _ _ _ _))
  refine Sy.sx_plain rfl rfl (Sy.sx_val (Sy.rx_loadOne T F (hX := (by intro hm; exact (F.loose _ (.inr (Option.mem_toList.1 hm))).2.1 (by simp)))) T rfl ?_); (clear T; intro ac T); show Sy.wpUx _ _ _ _ _ _ _ _ _
  repeat (((refine Sy.sx_plain (h := ?_)); ((refine Sy.sx_pure T (h := ?_); clear T; intro ac T)); show Sy.wpUx _ _ _ _ _ _ _ _ _))
  refine Sy.sx_plain rfl rfl (Sy.sx_val (Sy.rx_loadOne T F (hX := (by intro hm; exact (F.loose _ (.inr (Option.mem_toList.1 hm))).2.1 (by simp)))) T rfl ?_); (clear T; intro ac T); show Sy.wpUx _ _ _ _ _ _ _ _ _
  skip
  refine Sy.sx_callOX rfl T F (fun q hq => Option.mem_toList.2 hq) (hc := rnum_any W0 _ F.handO f1 (by omega) (by first | omega | (simp only [List.length_append, List.length_nil]; omega) | (simp; done))) (h := ?_)
  clear T F; intro v X1 ac w hX T F
  obtain ⟨a1, cap1, rfl⟩ := own_slice F.ext.2.1
  skip
  refine Sy.sx_callOX rfl T F hX (hc := rnum_any W0 _ F.handO f2 (by omega) (by first | omega | (simp only [List.length_append, List.length_nil]; omega) | (simp; done))) (h := ?_)
  clear T F; intro v X1 ac w hX T F
  obtain ⟨a1, cap1, rfl⟩ := own_slice F.ext.2.1
  skip
  refine Sy.sx_callOX rfl T F hX (hc := rnum_any W0 _ F.handO f3 (by omega) (by first | omega | (simp only [List.length_append, List.length_nil]; omega) | (simp; done))) (h := ?_)
  clear T F; intro v X1 ac w hX T F
  obtain ⟨a1, cap1, rfl⟩ := own_slice F.ext.2.1
  skip
  refine Sy.sx_callOX rfl T F hX (hc := rnum_any W0 _ F.handO f4 (by omega) (by first | omega | (simp only [List.length_append, List.length_nil]; omega) | (simp; done))) (h := ?_)
  clear T F; intro v X1 ac w hX T F
  obtain ⟨a1, cap1, rfl⟩ := own_slice F.ext.2.1
  repeat (first
    | (((with_reducible refine Sy.is_load ?_); (refine Sy.st_loadOne T F (h := ?_)); clear T; intro ac T))
    | (((with_reducible refine Sy.is_op ?_); refine Sy.st_pure T (h := ?_); clear T; intro ac T))
    | (with_reducible refine wp_region_lit ?_)
    | ((with_reducible refine wp_seq_k ?_); intro _ _)
    | (go_at_K; go_step)
    | (simp only [Exit.then, Exit.inBlock, ↓reduceIte, Nat.reduceEqDiff])
    | ((refine Sy.sx_plain (h := ?_)); ((refine Sy.sx_pure T (h := ?_); clear T; intro ac T)); show Sy.wpUx _ _ _ _ _ _ _ _ _)
    | (with_reducible refine Sy.sx_nil ?_)
    | (with_reducible refine Sy.sx_end ?_))
  refine Sy.st_callO T F (hc := rform_any W0 _ F.handO (hr.guard) hir.guard (by first | omega | (simp only [List.length_append, List.length_nil]; omega) | (simp; done))) (h := ?_)
  clear T F; intro v ac w T F
  obtain ⟨a1, cap1, rfl⟩ := own_slice F.ext.2.1
  obtain ⟨L2, hL2⟩ : ∃ L, L = L1 ++ numB f1 ++ numB f2 ++ numB f3 ++ numB f4 ++ formB r.guard := ⟨_, rfl⟩
  rw [← hL2] at T F
  have n2' : L2.length ≤ 301000 := by rw [hL2]; simp; omega
  repeat (first
    | (((with_reducible refine Sy.is_load ?_); (refine Sy.st_loadOne T F (h := ?_)); clear T; intro ac T))
    | (((with_reducible refine Sy.is_op ?_); refine Sy.st_pure T (h := ?_); clear T; intro ac T))
    | (with_reducible refine wpList_nil ?_)
    | (with_reducible refine wp_region_lit ?_)
    | ((with_reducible refine wp_seq_k ?_); intro _ _)
    | (go_at_K; go_step)
    | (simp only [Exit.then, Exit.inBlock, ↓reduceIte, Nat.reduceEqDiff]))
  refine Sy.st_callO T F (hc := rnum_any W0 _ F.handO r.sets.length (by omega) (by first | omega | (simp only [List.length_append, List.length_nil]; omega) | (simp; done))) (h := ?_)
  clear T F; intro v ac w T F
  obtain ⟨a1, cap1, rfl⟩ := own_slice F.ext.2.1
  obtain ⟨L3, hL3⟩ : ∃ L, L = L2 ++ numB r.sets.length := ⟨_, rfl⟩
  rw [← hL3] at T F
  have n3' : L3.length ≤ 302000 := by rw [hL3]; simp; omega
  clear hX
  repeat (first
    | (((with_reducible refine Sy.is_load ?_); (refine Sy.st_loadOne T F (h := ?_)); clear T; intro ac T))
    | (((with_reducible refine Sy.is_op ?_); refine Sy.st_pure T (h := ?_); clear T; intro ac T))
    | (with_reducible refine wpList_nil ?_)
    | (with_reducible refine wp_region_lit ?_)
    | (with_reducible refine wp_block ?_)
    | ((with_reducible refine wp_seq_k ?_); intro _ _)
    | (go_at_K; go_step)
    | (simp only [Exit.then, Exit.inBlock, ↓reduceIte, Nat.reduceEqDiff]))
  refine wp_loop_ghost_k (fun nq ac w' => ∃ j L a1 cap1, nq = r.sets.length - j ∧ j ≤ r.sets.length ∧ L = L3 ++ (r.sets.take j).flatMap setB ∧ Sy.Tm ac 116 [(1, .pointer (some ⟨b1', 0, none⟩)), (4, .slice a1 L.length cap1), (6, .pointer (some ⟨b6, 0, none⟩)), (26, .int .i64 (t.rules.length : Int)), (27, .int .i64 (k : Int)), (59, .int .i64 (r.sets.length : Int)), (60, .int .i64 (j : Int))] ∧ Sy.MemE (Sy.SlA Sy.E0 5 1 (.slice a1 L.length cap1) L.length (L.map bv)) ⟨W0, [], W0⟩ W0 [⟨b6, [.int .i64 (f1 : Int), .int .i64 (f2 : Int), .int .i64 (f3 : Int), .int .i64 (f4 : Int), .slice ga r.guard.length gc, .slice sa r.sets.length sc, .slice ea r.emits.length ec], 76⟩, ⟨b1', [.int .i64 (n1 : Int), .int .i64 (n2 : Int), .slice (some ⟨rb, ro, none⟩) t.rules.length tc], 24⟩] w') r.sets.length ?_ ?_
  · exact ⟨0, L3, _, _, rfl, Nat.zero_le _, by simp, (T.part (by repeat (first | exact Sy.Part.nil | apply Sy.Part.cons rfl))), (F.sel (by repeat (first | exact Sy.Sel.nil | apply Sy.Sel.cons (by repeat (first | exact Sy.Take.here | apply Sy.Take.there)))))⟩
  clear T F
  intro nn ac w hI J2 K2 hJ2 hK2
  obtain ⟨j, L, a1, cap1, rfl, hj, hL, T, F⟩ := hI
  have hdj := fm_lts (f := setB) (c := 600) hir.ns (fun s hs => set_len (hir.sets s hs)) j
  have n4' : L.length ≤ 310000 := by rw [hL, List.length_append]; omega
  by_cases hjl : j < r.sets.length
  · have u1 : decide ((j : Int) < (r.sets.length : Int)) = true := decide_eq_true (by omega)
    have u2 : IntKind.i64.wrap ((j : Int) + 1) = ((j + 1 : Nat) : Int) := by rw [i64_wrap (by omega) (by omega)]; omega
    have hup2 := fm_up (f := setB) hjl
    have his := hir.sets _ (List.getElem_mem hjl)
    obtain ⟨xb, xo, row2, hra2, hrl2, hat2, hrow2⟩ := rows_get hr.sets hjl
    generalize r.sets[j] = x at *
    obtain ⟨xa, xc, rfl, x1, x2⟩ := hrow2
    replace hra2 : sa = _ := hra2
    subst hra2
    obtain ⟨y1, hy1⟩ := Int.eq_ofNat_of_zero_le his.1.1
    have hyl := his.1.2
    have z1 := numB_len (n := y1) (by omega)
    rw [hy1] at hat2
    repeat (first
    | (((with_reducible refine Sy.is_op ?_); refine Sy.st_pure T (h := ?_); clear T; intro ac T))
    | ((with_reducible refine Sy.is_cond ?_); (refine Sy.st_true T (h := ?_)))
    | (with_reducible refine wpList_nil ?_)
    | (with_reducible refine wp_region_lit ?_)
    | (with_reducible refine wp_block ?_)
    | (with_reducible refine wp_skip ?_)
    | ((with_reducible refine wp_seq_k ?_); intro _ _)
    | (go_at_K; go_step)
    | (simp only [Exit.then, Exit.inBlock, ↓reduceIte, Nat.reduceEqDiff]))
    refine Sy.sx_region F ((blk (.slice a1 L.length cap1)).toList) (.t 0 (.t 1 (.t 2 (.t 3 (.t 4 (.t 5 (.t 6 (.t 8 (.t 9 (.t 10 (.t 11 (.t 12 (.t 13 (.h 7 (.h 14 (.t 15 .e)))))))))))))))) [] (by kernel_rfl) ?_; (clear F; intro w F)
    repeat (((refine Sy.sx_plain (h := ?_)); ((refine Sy.sx_pure T (h := ?_); clear T; intro ac T)); show Sy.wpUx _ _ _ _ _ _ _ _ _))
    refine Sy.sx_plain rfl rfl (Sy.sx_val (Sy.rx_loadOne T F (hX := (by intro hm; exact (F.loose _ (.inr (Option.mem_toList.1 hm))).2.1 (by simp)))) T rfl ?_); (clear T; intro ac T); show Sy.wpUx _ _ _ _ _ _ _ _ _
    repeat (((refine Sy.sx_plain (h := ?_)); ((refine Sy.sx_pure T (h := ?_); clear T; intro ac T)); show Sy.wpUx _ _ _ _ _ _ _ _ _))
    refine Sy.sx_plain rfl rfl (Sy.sx_val (fun w' hw' => Sy.runs_loadOne T (by exact rfl) (by exact rfl) (by exact rfl) (Sy.MemE.subO F hw' _ _ (hat2 0 _ rfl))) T rfl ?_); (clear T; intro ac T); show Sy.wpUx _ _ _ _ _ _ _ _ _
    repeat (((refine Sy.sx_plain (h := ?_)); ((refine Sy.sx_pure T (h := ?_); clear T; intro ac T)); show Sy.wpUx _ _ _ _ _ _ _ _ _))
    refine Sy.sx_plain rfl rfl (Sy.sx_val (Sy.rx_loadOne T F (hX := (by intro hm; exact (F.loose _ (.inr (Option.mem_toList.1 hm))).2.1 (by simp)))) T rfl ?_); (clear T; intro ac T); show Sy.wpUx _ _ _ _ _ _ _ _ _
    repeat (((refine Sy.sx_plain (h := ?_)); ((refine Sy.sx_pure T (h := ?_); clear T; intro ac T)); show Sy.wpUx _ _ _ _ _ _ _ _ _))
    refine Sy.sx_plain rfl rfl (Sy.sx_val (fun w' hw' => Sy.runs_loadOne T (by exact rfl) (by exact rfl) (by exact rfl) (Sy.MemE.subO F hw' _ _ (hat2 1 _ rfl))) T rfl ?_); (clear T; intro ac T); show Sy.wpUx _ _ _ _ _ _ _ _ _
    skip
    refine Sy.sx_callOX rfl T F (fun q hq => Option.mem_toList.2 hq) (hc := rnum_any W0 _ F.handO y1 (by omega) (by first | omega | (simp only [List.length_append, List.length_nil]; omega) | (simp; done))) (h := ?_)
    clear T F; intro v X1 ac w hX T F
    obtain ⟨a1, cap1, rfl⟩ := own_slice F.ext.2.1
    skip
    refine Sy.sx_callOX rfl T F hX (hc := rform_any W0 _ F.handO (x2) his.2 (by first | omega | (simp only [List.length_append, List.length_nil]; omega) | (simp; done))) (h := ?_)
    clear T F; intro v X1 ac w hX T F
    obtain ⟨a1, cap1, rfl⟩ := own_slice F.ext.2.1
    repeat (first
    | (((with_reducible refine Sy.is_op ?_); refine Sy.st_pure T (h := ?_); clear T; intro ac T))
    | (with_reducible refine wpList_nil ?_)
    | (with_reducible refine wp_region_lit ?_)
    | (go_at_K; go_step)
    | (simp only [Exit.then, Exit.inBlock, ↓reduceIte, Nat.reduceEqDiff])
    | ((refine Sy.sx_plain (h := ?_)); ((refine Sy.sx_pure T (h := ?_); clear T; intro ac T)); show Sy.wpUx _ _ _ _ _ _ _ _ _)
    | (with_reducible refine Sy.sx_nil ?_)
    | (with_reducible refine Sy.sx_end ?_))
    have e : L ++ numB y1 ++ formB x.val = L3 ++ (r.sets.take (j + 1)).flatMap setB := by
      rw [hL, hup2]
      unfold setB
      rw [hy1]
      simp
    exact Sy.handed hJ2 (k := r.sets.length - (j + 1)) (by omega) ⟨j + 1, _, _, _, rfl, by omega, e, (T.part (by repeat (first | exact Sy.Part.nil | apply Sy.Part.cons rfl))), (F.sel (by repeat (first | exact Sy.Sel.nil | apply Sy.Sel.cons (by repeat (first | exact Sy.Take.here | apply Sy.Take.there)))))⟩
  obtain rfl : j = r.sets.length := by omega
  have u1 : decide ((r.sets.length : Int) < (r.sets.length : Int)) = false := decide_eq_false (by omega)
  rw [List.take_length] at hL
  repeat (first
    | (((with_reducible refine Sy.is_load ?_); (refine Sy.st_loadOne T F (h := ?_)); clear T; intro ac T))
    | (((with_reducible refine Sy.is_op ?_); refine Sy.st_pure T (h := ?_); clear T; intro ac T))
    | ((with_reducible refine Sy.is_cond ?_); (refine Sy.st_false T (h := ?_)))
    | (with_reducible refine wpList_nil ?_)
    | (with_reducible refine wp_region_lit ?_)
    | (with_reducible refine wp_exit ?_)
    | ((with_reducible refine wp_seq_k ?_); intro _ _)
    | (go_at_K; go_step)
    | (simp only [Exit.then, Exit.inBlock, ↓reduceIte, Nat.reduceEqDiff]))
  refine Sy.st_callO T F (hc := rnum_any W0 _ F.handO r.emits.length (by omega) (by first | omega | (simp only [List.length_append, List.length_nil]; omega) | (simp; done))) (h := ?_)
  clear T F; intro v ac w T F
  obtain ⟨a1, cap1, rfl⟩ := own_slice F.ext.2.1
  obtain ⟨L5, hL5⟩ : ∃ L', L' = L ++ numB r.emits.length := ⟨_, rfl⟩
  rw [← hL5] at T F
  have n5' : L5.length ≤ 311000 := by rw [hL5]; simp; omega
  repeat (first
    | (((with_reducible refine Sy.is_load ?_); (refine Sy.st_loadOne T F (h := ?_)); clear T; intro ac T))
    | (((with_reducible refine Sy.is_op ?_); refine Sy.st_pure T (h := ?_); clear T; intro ac T))
    | (with_reducible refine wpList_nil ?_)
    | (with_reducible refine wp_region_lit ?_)
    | (with_reducible refine wp_block ?_)
    | ((with_reducible refine wp_seq_k ?_); intro _ _)
    | (go_at_K; go_step)
    | (simp only [Exit.then, Exit.inBlock, ↓reduceIte, Nat.reduceEqDiff]))
  refine wp_loop_ghost_k (fun nq ac w' => ∃ j L a1 cap1, nq = r.emits.length - j ∧ j ≤ r.emits.length ∧ L = L5 ++ (r.emits.take j).flatMap emitB ∧ Sy.Tm ac 116 [(1, .pointer (some ⟨b1', 0, none⟩)), (4, .slice a1 L.length cap1), (6, .pointer (some ⟨b6, 0, none⟩)), (26, .int .i64 (t.rules.length : Int)), (27, .int .i64 (k : Int)), (86, .int .i64 (r.emits.length : Int)), (87, .int .i64 (j : Int))] ∧ Sy.MemE (Sy.SlA Sy.E0 5 1 (.slice a1 L.length cap1) L.length (L.map bv)) ⟨W0, [], W0⟩ W0 [⟨b6, [.int .i64 (f1 : Int), .int .i64 (f2 : Int), .int .i64 (f3 : Int), .int .i64 (f4 : Int), .slice ga r.guard.length gc, .slice sa r.sets.length sc, .slice ea r.emits.length ec], 76⟩, ⟨b1', [.int .i64 (n1 : Int), .int .i64 (n2 : Int), .slice (some ⟨rb, ro, none⟩) t.rules.length tc], 24⟩] w') r.emits.length ?_ ?_
  · exact ⟨0, L5, _, _, rfl, Nat.zero_le _, by simp, (T.part (by repeat (first | exact Sy.Part.nil | apply Sy.Part.cons rfl))), (F.sel (by repeat (first | exact Sy.Sel.nil | apply Sy.Sel.cons (by repeat (first | exact Sy.Take.here | apply Sy.Take.there)))))⟩
  clear T F hJ2 hK2
  intro nn ac w hI J2 K2 hJ2 hK2
  obtain ⟨j, L6, a1, cap1, rfl, hj, hL6, T, F⟩ := hI
  have hdj := fm_lts (f := emitB) (c := 600) hir.ne (fun s hs => emit_len (hir.emits s hs)) j
  have n6' : L6.length ≤ 320000 := by rw [hL6, List.length_append]; omega
  by_cases hjl : j < r.emits.length
  · have u1 : decide ((j : Int) < (r.emits.length : Int)) = true := decide_eq_true (by omega)
    have u2 : IntKind.i64.wrap ((j : Int) + 1) = ((j + 1 : Nat) : Int) := by rw [i64_wrap (by omega) (by omega)]; omega
    have hup2 := fm_up (f := emitB) hjl
    have his := hir.emits _ (List.getElem_mem hjl)
    obtain ⟨xb, xo, row2, hra2, hrl2, hat2, hrow2⟩ := rows_get hr.emits hjl
    generalize r.emits[j] = x at *
    obtain ⟨xa, xc, rfl, x0, x1, x2⟩ := hrow2
    replace hra2 : ea = _ := hra2
    subst hra2
    obtain ⟨y1, hy1⟩ := Int.eq_ofNat_of_zero_le his.2.1.1
    have hyl := his.2.1.2
    have hxt := his.1
    have z1 := numB_len (n := y1) (by omega)
    have z2 := numB_len (n := x.target) (by omega)
    have c1 : IntKind.i64.wrap (x.target : Int) = (x.target : Int) := by rw [i64_wrap (by omega) (by omega)]
    rw [hy1] at hat2
    repeat (first
    | (((with_reducible refine Sy.is_op ?_); refine Sy.st_pure T (h := ?_); clear T; intro ac T))
    | ((with_reducible refine Sy.is_cond ?_); (refine Sy.st_true T (h := ?_)))
    | (with_reducible refine wpList_nil ?_)
    | (with_reducible refine wp_region_lit ?_)
    | (with_reducible refine wp_block ?_)
    | (with_reducible refine wp_skip ?_)
    | ((with_reducible refine wp_seq_k ?_); intro _ _)
    | (go_at_K; go_step)
    | (simp only [Exit.then, Exit.inBlock, ↓reduceIte, Nat.reduceEqDiff]))
    refine Sy.sx_region F ((blk (.slice a1 L6.length cap1)).toList) (.t 0 (.t 1 (.t 2 (.t 3 (.t 4 (.t 5 (.t 6 (.t 7 (.t 9 (.t 10 (.t 11 (.t 12 (.t 13 (.t 14 (.t 16 (.t 17 (.t 18 (.t 19 (.t 20 (.t 21 (.h 8 (.h 15 (.h 22 (.t 23 .e)))))))))))))))))))))))) [] (by kernel_rfl) ?_; (clear F; intro w F)
    repeat (((refine Sy.sx_plain (h := ?_)); ((refine Sy.sx_pure T (h := ?_); clear T; intro ac T)); show Sy.wpUx _ _ _ _ _ _ _ _ _))
    refine Sy.sx_plain rfl rfl (Sy.sx_val (Sy.rx_loadOne T F (hX := (by intro hm; exact (F.loose _ (.inr (Option.mem_toList.1 hm))).2.1 (by simp)))) T rfl ?_); (clear T; intro ac T); show Sy.wpUx _ _ _ _ _ _ _ _ _
    repeat (((refine Sy.sx_plain (h := ?_)); ((refine Sy.sx_pure T (h := ?_); clear T; intro ac T)); show Sy.wpUx _ _ _ _ _ _ _ _ _))
    refine Sy.sx_plain rfl rfl (Sy.sx_val (fun w' hw' => Sy.runs_loadOne T (by exact rfl) (by exact rfl) (by exact rfl) (Sy.MemE.subO F hw' _ _ (hat2 0 _ rfl))) T rfl ?_); (clear T; intro ac T); show Sy.wpUx _ _ _ _ _ _ _ _ _
    repeat (((refine Sy.sx_plain (h := ?_)); ((refine Sy.sx_pure T (h := ?_); clear T; intro ac T)); show Sy.wpUx _ _ _ _ _ _ _ _ _))
    refine Sy.sx_plain rfl rfl (Sy.sx_val (Sy.rx_loadOne T F (hX := (by intro hm; exact (F.loose _ (.inr (Option.mem_toList.1 hm))).2.1 (by simp)))) T rfl ?_); (clear T; intro ac T); show Sy.wpUx _ _ _ _ _ _ _ _ _
    repeat (((refine Sy.sx_plain (h := ?_)); ((refine Sy.sx_pure T (h := ?_); clear T; intro ac T)); show Sy.wpUx _ _ _ _ _ _ _ _ _))
    refine Sy.sx_plain rfl rfl (Sy.sx_val (fun w' hw' => Sy.runs_loadOne T (by exact rfl) (by exact rfl) (by exact rfl) (Sy.MemE.subO F hw' _ _ (hat2 1 _ rfl))) T rfl ?_); (clear T; intro ac T); show Sy.wpUx _ _ _ _ _ _ _ _ _
    repeat (((refine Sy.sx_plain (h := ?_)); ((refine Sy.sx_pure T (h := ?_); clear T; intro ac T)); show Sy.wpUx _ _ _ _ _ _ _ _ _))
    refine Sy.sx_plain rfl rfl (Sy.sx_val (Sy.rx_loadOne T F (hX := (by intro hm; exact (F.loose _ (.inr (Option.mem_toList.1 hm))).2.1 (by simp)))) T rfl ?_); (clear T; intro ac T); show Sy.wpUx _ _ _ _ _ _ _ _ _
    repeat (((refine Sy.sx_plain (h := ?_)); ((refine Sy.sx_pure T (h := ?_); clear T; intro ac T)); show Sy.wpUx _ _ _ _ _ _ _ _ _))
    refine Sy.sx_plain rfl rfl (Sy.sx_val (fun w' hw' => Sy.runs_loadOne T (by exact rfl) (by exact rfl) (by exact rfl) (Sy.MemE.subO F hw' _ _ (hat2 2 _ rfl))) T rfl ?_); (clear T; intro ac T); show Sy.wpUx _ _ _ _ _ _ _ _ _
    skip
    refine Sy.sx_callOX rfl T F (fun q hq => Option.mem_toList.2 hq) (hc := rnum_any W0 _ F.handO x.target (by omega) (by first | omega | (simp only [List.length_append, List.length_nil]; omega) | (simp; done))) (h := ?_)
    clear T F; intro v X1 ac w hX T F
    obtain ⟨a1, cap1, rfl⟩ := own_slice F.ext.2.1
    skip
    refine Sy.sx_callOX rfl T F hX (hc := rnum_any W0 _ F.handO y1 (by omega) (by first | omega | (simp only [List.length_append, List.length_nil]; omega) | (simp; done))) (h := ?_)
    clear T F; intro v X1 ac w hX T F
    obtain ⟨a1, cap1, rfl⟩ := own_slice F.ext.2.1
    skip
    refine Sy.sx_callOX rfl T F hX (hc := rform_any W0 _ F.handO (x2) his.2.2 (by first | omega | (simp only [List.length_append, List.length_nil]; omega) | (simp; done))) (h := ?_)
    clear T F; intro v X1 ac w hX T F
    obtain ⟨a1, cap1, rfl⟩ := own_slice F.ext.2.1
    repeat (first
    | (((with_reducible refine Sy.is_op ?_); refine Sy.st_pure T (h := ?_); clear T; intro ac T))
    | (with_reducible refine wpList_nil ?_)
    | (with_reducible refine wp_region_lit ?_)
    | (go_at_K; go_step)
    | (simp only [Exit.then, Exit.inBlock, ↓reduceIte, Nat.reduceEqDiff])
    | ((refine Sy.sx_plain (h := ?_)); ((refine Sy.sx_pure T (h := ?_); clear T; intro ac T)); show Sy.wpUx _ _ _ _ _ _ _ _ _)
    | (with_reducible refine Sy.sx_nil ?_)
    | (with_reducible refine Sy.sx_end ?_))
    have e : L6 ++ numB x.target ++ numB y1 ++ formB x.arg = L5 ++ (r.emits.take (j + 1)).flatMap emitB := by
      rw [hL6, hup2]
      unfold emitB
      rw [hy1]
      simp
    exact Sy.handed hJ2 (k := r.emits.length - (j + 1)) (by omega) ⟨j + 1, _, _, _, rfl, by omega, e, (T.part (by repeat (first | exact Sy.Part.nil | apply Sy.Part.cons rfl))), (F.sel (by repeat (first | exact Sy.Sel.nil | apply Sy.Sel.cons (by repeat (first | exact Sy.Take.here | apply Sy.Take.there)))))⟩
  obtain rfl : j = r.emits.length := by omega
  have u1 : decide ((r.emits.length : Int) < (r.emits.length : Int)) = false := decide_eq_false (by omega)
  have e : L6 = L0 ++ (t.rules.take (k + 1)).flatMap ruleB := by
    rw [List.take_length] at hL6
    rw [hL6, hup, hL5, hL, hL3, hL2, hL1]
    unfold ruleB
    rw [hf1, hf2, hf3, hf4]
    simp
  repeat (first
    | (((with_reducible refine Sy.is_op ?_); refine Sy.st_pure T (h := ?_); clear T; intro ac T))
    | ((with_reducible refine Sy.is_cond ?_); (refine Sy.st_false T (h := ?_)))
    | (with_reducible refine wpList_nil ?_)
    | (with_reducible refine wp_region_lit ?_)
    | (with_reducible refine wp_exit ?_)
    | ((with_reducible refine wp_seq_k ?_); intro _ _)
    | (go_at_K; go_step)
    | (simp only [Exit.then, Exit.inBlock, ↓reduceIte, Nat.reduceEqDiff]))
  exact Sy.handed hJ1 (k := t.rules.length - (k + 1)) (by omega) ⟨k + 1, L6, _, _, rfl, by omega, e, (T.part (by repeat (first | exact Sy.Part.nil | apply Sy.Part.cons rfl))), (F.sel (by repeat (first | exact Sy.Sel.nil | apply Sy.Sel.cons (by repeat (first | exact Sy.Take.here | apply Sy.Take.there)))))⟩
end Tk
end Go.Proofs.Ytniopkoaplkpkaa
