/- The walk of reg.Put at registers that are something. Conditions: the bytes and the register can be read; its lists are short. -/
import Derived.Test.YtniopkoaplkpkaaPut
namespace Go.Proofs.Ytniopkoaplkpkaa
open Go.RowKit
set_option linter.unusedVariables false
set_option linter.unusedSimpArgs false
namespace Rg
open Sy (RetV RetM Sub)
open Pk
theorem nameS {a : Act} {n : Nat} {ts : List (Nat × Value)} (T : Sy.Tm a n ts) (k : Nat) {g l c : Nat} (h : Sy.getT ts k = some (.slice (some ⟨g, 0, none⟩) l c)) : ∃ x, x = g := ⟨_, rfl⟩
theorem nameQ {a : Act} {n : Nat} {ts : List (Nat × Value)} (T : Sy.Tm a n ts) (k : Nat) {g : Nat} (h : Sy.getT ts k = some (.pointer (some ⟨g, 0, none⟩))) : ∃ x, x = g := ⟨_, rfl⟩
structure PutOk (r : RegD) : Prop where
  s0 : 0 ≤ r.state
  s1 : r.state < 32
  d : ∀ d ∈ r.done, 0 ≤ d.rep.err ∧ d.rep.err ≤ 99 ∧ 0 ≤ d.rep.state ∧ d.rep.state < 32 ∧ d.rep.vars.length ≤ 8
  c : ∀ c ∈ r.out, 0 ≤ c.action ∧ c.action < 32
theorem putOk {r : RegD} (h : mayS r = true) (hk : r.kind ≠ 0) : PutOk r := by
  have hc : coreS r = true := by
    unfold mayS at h
    rw [if_neg hk] at h
    split at h
    · rw [Bool.and_eq_true] at h; exact h.2
    · split at h
      · exact h
      · cases h
  unfold coreS inS at hc
  simp only [Bool.and_eq_true, decide_eq_true_eq] at hc
  obtain ⟨h1, ⟨h2, h3⟩, h4, h5, h6, h7⟩ := hc
  refine ⟨h2, h3, fun d hd => ?_, fun c hcm => ?_⟩
  · unfold donesS at h5
    simp only [Bool.and_eq_true, Bool.not_eq_true', List.any_eq_false] at h5
    have h8 := h5.1 d hd
    unfold dbadS replyS inS at h8
    simp only [Bool.or_eq_true, Bool.not_eq_true', Bool.and_eq_false_iff, decide_eq_true_eq, decide_eq_false_iff_not, beq_iff_eq] at h8
    omega
  · unfold cellsS at h6
    simp only [Bool.and_eq_true, Bool.not_eq_true', List.any_eq_false] at h6
    have h8 := h6.1 c hcm
    unfold cbadS inS at h8
    simp only [Bool.or_eq_true, Bool.not_eq_true', Bool.and_eq_false_iff, decide_eq_true_eq, decide_eq_false_iff_not] at h8
    omega
theorem one_len {n : Nat} (h : n < 18446744073709551616) : ([n].flatMap numB).length ≤ 10 := by simpa using numB_len h
theorem doneB_len {w : World} {cs : List Value} {d : DoneD} (h : DoneR w cs d) (hv : d.rep.vars.length ≤ 8) (he : 0 ≤ d.rep.err ∧ d.rep.err ≤ 99) (hs : 0 ≤ d.rep.state ∧ d.rep.state < 32) : (doneB d).length ≤ 200 := by
  obtain ⟨p, rfl, h1, h2, h3, h4, h5, h6, -⟩ := h
  unfold U8 at h1
  unfold U64 at h2 h4
  have a1 := numB_len (n := d.client) (by omega)
  have a2 := numB_len h2
  have a3 := numB_len (n := d.rep.err.toNat) (by omega)
  have a4 := numB_len h4
  have a5 := numB_len (n := d.rep.state.toNat) (by omega)
  have a6 := numB_len (n := d.rep.vars.length) (by omega)
  have a7 := ints_len (nums_bd h6)
  unfold doneB repB
  simp only [List.length_append]
  omega
theorem cellB_len {w : World} {cs : List Value} {c : CellD} (h : CellR w cs c) (ha : 0 ≤ c.action ∧ c.action < 32) : (cellB c).length ≤ 40 := by
  obtain ⟨rfl, h1, h2, h3, h4⟩ := h
  unfold U64 at h1
  unfold U8 at h2
  unfold I64 at h4
  have a1 := numB_len h1
  have a2 := numB_len (n := c.target) (by omega)
  have a3 := numB_len (n := c.action.toNat) (by omega)
  have a4 := numB_len (zig_lt h4.1 h4.2)
  unfold cellB
  simp only [List.length_append]
  omega
theorem markB_len {w : World} {cs : List Value} {c : MarkD} (h : MarkR w cs c) : (markB c).length ≤ 30 := by
  obtain ⟨rfl, h1, h2, h3⟩ := h
  unfold U8 at h1
  unfold U64 at h2 h3
  have a1 := numB_len (n := c.source) (by omega)
  have a2 := numB_len h2
  have a3 := numB_len h3
  unfold markB
  simp only [List.length_append]
  omega
theorem rows_all {α : Type} {R : World → List Value → α → Prop} {c : Nat} {m : World} {a : Option Addr} {l : List α} {p : α → Prop} (h : Rows R c m a l) (hp : ∀ cs x, x ∈ l → R m cs x → p x) : ∀ x ∈ l, p x := by
  intro x hx
  obtain ⟨k, hk, rfl⟩ := List.getElem_of_mem hx
  obtain ⟨b, o, cs, _, _, _, hr⟩ := rows_get h hk
  exact hp cs _ hx hr
set_option maxRecDepth 20000 in
set_option maxHeartbeats 16000000 in
theorem put_k (W0 : World) {a : Option Addr} {cap : Nat} {l : List UInt8} (hb : Bytes W0 a l.length l) (hl : l.length ≤ 1000) (r : RegD) (p : RegA) (h : RegAt W0 r p) (hs : Short r) (hm : mayS r = true) (hk : r.kind ≠ 0) :
    Calls Try.prog 19 #[.slice a l.length cap, .agg (regCs r p).toArray] W0 (RetM W0 W0 (BytP W0.heap.size (l ++ regB r) 0)) := by
  have F := Sy.Mem.start (Sub.refl W0)
  have hok := putOk hm hk
  have G := fun w' (hs' : Sub W0 w') => may_any w' r p (h.sub hs') hs
  rw [hm] at G
  obtain ⟨va, vc, da, dc, oa, oc, ma, mc⟩ := p
  obtain ⟨s1, s2, s3, s4⟩ := hs
  have a1 := eqF (a := (r.kind : Int)) (b := 0) (by omega)
  have hk8 := h.kind
  have hinc := h.inc
  have hlast := h.last
  unfold U8 at hk8
  unfold U64 at hinc hlast
  have ho0 := hok.s0
  have ho1 := hok.s1
  have a2 : IntKind.u64.wrap (r.kind : Int) = (r.kind : Int) := by rw [IntKind.wrap_u64]; omega
  have a3 : IntKind.u64.wrap r.state = ((r.state.toNat : Nat) : Int) := nat_u64 (by omega) (by omega)
  have a4 : IntKind.u64.wrap (r.done.length : Int) = (r.done.length : Int) := u64_len (by omega)
  have a5 : IntKind.u64.wrap (r.out.length : Int) = (r.out.length : Int) := u64_len (by omega)
  have a6 : IntKind.u64.wrap (r.marks.length : Int) = (r.marks.length : Int) := u64_len (by omega)
  have hdl := fm_len (f := doneB) (c := 200) (l := r.done) (rows_all h.done fun cs d hd hr => doneB_len hr (hok.d d hd).2.2.2.2 ⟨(hok.d d hd).1, (hok.d d hd).2.1⟩ ⟨(hok.d d hd).2.2.1, (hok.d d hd).2.2.2.1⟩)
  have hdl2 : ∀ k, ((r.done.take k).flatMap doneB).length ≤ 200 * 50 := fun k => by
    have h1 := fm_len (f := doneB) (c := 200) (l := r.done.take k) (fun x hx => rows_all h.done (fun cs d hd hr => doneB_len hr (hok.d d hd).2.2.2.2 ⟨(hok.d d hd).1, (hok.d d hd).2.1⟩ ⟨(hok.d d hd).2.2.1, (hok.d d hd).2.2.2.1⟩) x (List.mem_of_mem_take hx))
    have h2 := List.length_take_le k r.done
    have h3 : (r.done.take k).length ≤ 50 := by rw [List.length_take]; omega
    omega
  have hcl2 : ∀ k, ((r.out.take k).flatMap cellB).length ≤ 40 * 50 := fun k => by
    have h1 := fm_len (f := cellB) (c := 40) (l := r.out.take k) (fun x hx => rows_all h.out (fun cs d hd hr => cellB_len hr (hok.c d hd)) x (List.mem_of_mem_take hx))
    have h3 : (r.out.take k).length ≤ 50 := by rw [List.length_take]; omega
    omega
  have hml2 : ∀ k, ((r.marks.take k).flatMap markB).length ≤ 30 * 50 := fun k => by
    have h1 := fm_len (f := markB) (c := 30) (l := r.marks.take k) (fun x hx => rows_all h.marks (fun cs d hd hr => markB_len hr) x (List.mem_of_mem_take hx))
    have h3 : (r.marks.take k).length ≤ 50 := by rw [List.length_take]; omega
    omega
  obtain ⟨L1, hL1⟩ : ∃ L, L = l ++ [r.kind].flatMap numB := ⟨_, rfl⟩
  obtain ⟨L2, hL2⟩ : ∃ L, L = L1 ++ [r.inc, r.state.toNat].flatMap numB := ⟨_, rfl⟩
  obtain ⟨L3, hL3⟩ : ∃ L, L = L2 ++ (numB r.vars.length ++ intsB r.vars) := ⟨_, rfl⟩
  obtain ⟨L4, hL4⟩ : ∃ L, L = L3 ++ [r.done.length].flatMap numB := ⟨_, rfl⟩
  obtain ⟨L5, hL5⟩ : ∃ L, L = (L4 ++ r.done.flatMap doneB) ++ [r.out.length].flatMap numB := ⟨_, rfl⟩
  obtain ⟨L6, hL6⟩ : ∃ L, L = (L5 ++ r.out.flatMap cellB) ++ [r.last, r.marks.length].flatMap numB := ⟨_, rfl⟩
  have hfin : L6 ++ r.marks.flatMap markB = l ++ regB r := by
    subst hL6 hL5 hL4 hL3 hL2 hL1
    unfold regB headB
    rw [if_neg hk]
    simp
  have n1 : L1.length ≤ 1010 := by have := numB_len (n := r.kind) (by omega); rw [hL1]; simp; omega
  have n2 : L2.length ≤ 1030 := by
    have b1 := numB_len hinc
    have b2 := numB_len (n := r.state.toNat) (by omega)
    rw [hL2]; simp; omega
  have n3 : L3.length ≤ 1540 := by
    have b1 := numB_len (n := r.vars.length) (by omega)
    have b2 := ints_len (nums_bd h.vars)
    rw [hL3]; simp; omega
  have n4 : L4.length ≤ 1550 := by have b1 := numB_len (n := r.done.length) (by omega); rw [hL4]; simp; omega
  have n5 : L5.length ≤ 11560 := by
    have b1 := numB_len (n := r.out.length) (by omega)
    have b2 := hdl2 r.done.length
    rw [List.take_length] at b2
    rw [hL5]; simp only [List.length_append, List.flatMap_cons, List.flatMap_nil, List.append_nil]; omega
  have n6 : L6.length ≤ 13580 := by
    have b1 := numB_len hlast
    have b2 := numB_len (n := r.marks.length) (by omega)
    have b3 := hcl2 r.out.length
    rw [List.take_length] at b3
    rw [hL6]; simp only [List.length_append, List.flatMap_cons, List.flatMap_nil, List.append_nil]; omega
  refine Sy.enter Try.func19 rfl Try.ntmps19 rfl ?_; intro ac T; simp only [Sy.enum, Nat.zero_add, Nat.reduceAdd] at T
  repeat (first
    | (((with_reducible refine Sy.is_load ?_); (refine Sy.st_loadAll T F (h := ?_)); clear T; intro ac T))
    | (((with_reducible refine Sy.is_box ?_); (refine Sy.st_boxAgg T F (h := ?_)); clear T F; intro ac g w T F))
    | (((with_reducible refine Sy.is_op ?_); refine Sy.st_pure T (h := ?_); clear T; intro ac T))
    | (with_reducible refine wpList_nil ?_)
    | (with_reducible refine wp_region_lit ?_)
    | ((with_reducible refine wp_seq_k ?_); intro _ _)
    | (go_at_K; go_step)
    | (simp only [Exit.then, Exit.inBlock, ↓reduceIte, Nat.reduceEqDiff]))
  refine Sy.st_callV0 T F (hc := G _ F.sub) (h := ?_); (clear T F; intro ac w T F)
  repeat (first
    | (((with_reducible refine Sy.is_load ?_); (refine Sy.st_loadOne T F (h := ?_)); clear T; intro ac T))
    | (((with_reducible refine Sy.is_buildSlice ?_); refine Sy.st_buildSlice T F (h := ?_); (conv => whnf); (repeat (refine ⟨by first | exact rfl | exact ⟨rfl, rfl⟩, ?_⟩; (conv => whnf))); clear T F; intro ac g w T F))
    | (((with_reducible refine Sy.is_op ?_); refine Sy.st_pure T (h := ?_); clear T; intro ac T))
    | ((with_reducible refine Sy.is_cond ?_); (refine Sy.st_false T (h := ?_)))
    | (with_reducible refine wpList_nil ?_)
    | (with_reducible refine wp_region_lit ?_)
    | (with_reducible refine wp_skip ?_)
    | ((with_reducible refine wp_seq_k ?_); intro _ _)
    | (go_at_K; go_step)
    | (simp only [Exit.then, Exit.inBlock, ↓reduceIte, Nat.reduceEqDiff]))
  have hF := F.size
  have hU := u64s_own (ns := [r.kind]) (F.get Sy.Take.here) rfl (by simp; omega)
  have G := callsF F.sub (nums_any (cap := cap) (c2 := 1) _ (hb.sub F.sub) hU (by simp) (by simp) (by omega)); refine Sy.st_callM0 T F (hc := G) (h := ?_); (clear T F G; intro v m ac w hR hS T F)
  replace hR := hR.base hF
  rw [← hL1] at hR
  clear hU G
  obtain ⟨ba, bc, rfl, hb1, hb2, hb3, hb4⟩ := hR
  repeat (first
    | (((with_reducible refine Sy.is_load ?_); (refine Sy.st_loadOne T F (h := ?_)); clear T; intro ac T))
    | (((with_reducible refine Sy.is_op ?_); refine Sy.st_pure T (h := ?_); clear T; intro ac T))
    | ((with_reducible refine Sy.is_cond ?_); (refine Sy.st_false T (h := ?_)))
    | (with_reducible refine wpList_nil ?_)
    | (with_reducible refine wp_region_lit ?_)
    | (with_reducible refine wp_skip ?_)
    | ((with_reducible refine wp_seq_k ?_); intro _ _)
    | (go_at_K; go_step)
    | (simp only [Exit.then, Exit.inBlock, ↓reduceIte, Nat.reduceEqDiff]))
  obtain ⟨b3, rfl⟩ := nameQ T 3 rfl
  replace h := h.sub hS
  rename ∀ (a : Act) (w : World), Code.wp _ (Code.seq (Code.seq (Code.region 7 _ _) _) _) _ a w → _ => hK7
  have H7 := Sy.cutP (I := fun ac w => ∃ m' v, Sub m m' ∧ BytF W0.heap.size L4 m' v ∧ Sy.Tm ac 130 [(0, v), (3, .pointer (some ⟨b3, 0, none⟩))] ∧ Sy.Mem ⟨W0, [], W0⟩ m' [⟨b3, regCs r ⟨va, vc, da, dc, oa, oc, ma, mc⟩, 42⟩] w) hK7 (by
    clear T F hb1 hb2 hb3 hb4 hK7
    intro ac w hI
    obtain ⟨m1, v1, h1S, hv1, T, F⟩ := hI
    have hd := h.sub h1S
    repeat (first
    | (((with_reducible refine Sy.is_load ?_); (refine Sy.st_loadOne T F (h := ?_)); clear T; intro ac T))
    | (((with_reducible refine Sy.is_op ?_); refine Sy.st_pure T (h := ?_); clear T; intro ac T))
    | (with_reducible refine wpList_nil ?_)
    | (with_reducible refine wp_region_lit ?_)
    | (with_reducible refine wp_block ?_)
    | ((with_reducible refine wp_seq_k ?_); intro _ _)
    | (go_at_K; go_step)
    | (simp only [Exit.then, Exit.inBlock, ↓reduceIte, Nat.reduceEqDiff]))
    refine wp_loop_ghost_k (fun n0 ac w' => ∃ k m' v, n0 = r.done.length - k ∧ k ≤ r.done.length ∧ Sub m1 m' ∧ BytF W0.heap.size (L4 ++ (r.done.take k).flatMap doneB) m' v ∧ Sy.Tm ac 130 [(0, v), (3, .pointer (some ⟨b3, 0, none⟩)), (43, .slice da r.done.length dc), (44, .int .i64 (r.done.length : Int)), (45, .int .i64 (k : Int))] ∧ Sy.Mem ⟨W0, [], W0⟩ m' [⟨b3, regCs r ⟨va, vc, da, dc, oa, oc, ma, mc⟩, 42⟩] w') r.done.length ?_ ?_
    · exact ⟨0, m1, v1, rfl, Nat.zero_le _, Sub.refl _, by simpa using hv1, (T.part (by repeat (first | exact Sy.Part.nil | apply Sy.Part.cons rfl))), (F.sel (by repeat (first | exact Sy.Sel.nil | apply Sy.Sel.cons (by repeat (first | exact Sy.Take.here | apply Sy.Take.there)))))⟩
    clear T F hv1 v1
    intro n0 ac w hI J K hJ hK
    obtain ⟨k, m2, v2, rfl, hk2, h2S, hv2, T, F⟩ := hI
    obtain ⟨ba, bc, rfl, hb1, hb2, hb3, hb4⟩ := hv2
    have hdk := hdl2 k
    by_cases hlt : k < r.done.length
    · have t1 : decide ((k : Int) < (r.done.length : Int)) = true := decide_eq_true (by omega)
      have t2 : IntKind.i64.wrap ((k : Int) + 1) = ((k + 1 : Nat) : Int) := by rw [i64_wrap (by omega) (by omega)]; omega
      have hq := hok.d _ (List.getElem_mem hlt)
      have hup := fm_up (f := doneB) hlt
      obtain ⟨rb, ro, row, hra, hrl, hrt, hrow⟩ := rows_get (hd.sub h2S).done hlt
      obtain ⟨⟨pa, pc⟩, rfl, u1, u2, u3, u4, u5, u6, u7⟩ := hrow
      generalize r.done[k] = d at *
      unfold U8 at u1
      unfold U64 at u2 u4
      have c1 : IntKind.u64.wrap (d.client : Int) = (d.client : Int) := u64_len (by omega)
      have c2 : IntKind.u64.wrap d.rep.err = ((d.rep.err.toNat : Nat) : Int) := nat_u64 (by omega) (by omega)
      have c3 : IntKind.u64.wrap d.rep.state = ((d.rep.state.toNat : Nat) : Int) := nat_u64 (by omega) (by omega)
      have q1 := numB_len (n := d.client) (by omega)
      have q2 := numB_len u2
      have q3 := numB_len (n := d.rep.err.toNat) (by omega)
      have q4 := numB_len u4
      have q5 := numB_len (n := d.rep.state.toNat) (by omega)
      replace hra : da = _ := hra
      subst hra
      repeat (first
    | (((with_reducible refine Sy.is_load ?_); (refine Sy.st_oldAgg T F (h := ?_)); clear T; intro ac T))
    | (((with_reducible refine Sy.is_store ?_); (refine Sy.st_storeAll T F (h := ?_)); clear T F; intro ac w T F))
    | (((with_reducible refine Sy.is_alloc ?_); refine Sy.st_alloc T F (h := ?_); clear T F; intro ac g w T F))
    | (((with_reducible refine Sy.is_op ?_); refine Sy.st_pure T (h := ?_); clear T; intro ac T))
    | ((with_reducible refine Sy.is_cond ?_); (refine Sy.st_true T (h := ?_)))
    | (with_reducible refine wpList_nil ?_)
    | (with_reducible refine wp_region_lit ?_)
    | (with_reducible refine wp_block ?_)
    | (with_reducible refine wp_skip ?_)
    | ((with_reducible refine wp_seq_k ?_); intro _ _)
    | (go_at_K; go_step)
    | (simp only [Exit.then, Exit.inBlock, ↓reduceIte, Nat.reduceEqDiff])
    | ((with_reducible refine Sy.is_drawn (id := 10) ?_); refine Sy.sx_region F [] (.t 0 (.t 1 (.t 2 (.t 3 (.t 4 (.t 5 (.t 6 (.t 7 (.t 8 (.t 9 (.t 10 (.t 11 (.t 12 (.t 13 (.t 14 (.t 15 (.t 16 (.t 19 (.t 20 (.t 21 (.h 17 (.h 18 (.h 22 (.t 23 .e)))))))))))))))))))))))) [] (by kernel_rfl) ?_; (clear F; intro w F))
    | ((refine Sy.sx_plain (h := ?_)); (first
    | ((with_reducible refine Sy.ux_load ?_); (refine Sy.sx_val (Sy.rx_loadOne T F) T rfl ?_); clear T; intro ac T)
    | (refine Sy.sx_pure T (h := ?_); clear T; intro ac T)); show Sy.wpUx _ _ _ _ _ _ _ _ _)
    | (refine Sy.sx_buildSlice (T := T) (F := F) (h := ?_); (conv => whnf); (repeat (refine ⟨by first | exact rfl | exact ⟨rfl, rfl⟩, ?_⟩; (conv => whnf))); clear T F; intro ac g w T F))
      have hF := F.size
      obtain ⟨g66, rfl⟩ := nameS T 66 rfl
      have hU := u64s_own (ns := [d.client, d.seq, d.rep.err.toNat, d.rep.inc, d.rep.state.toNat]) (F.get (g := g66) (by repeat (first | exact Sy.Take.here | apply Sy.Take.there))) rfl (by simp; omega)
      have G := callsF F.sub (nums_any (cap := bc) (c2 := 5) _ (hb1.sub F.sub) hU (by simp) (by simp) (by simp only [List.length_append] at *; omega)); refine Sy.sx_callM0 rfl T F (hc := G) (h := ?_); (clear T F G; intro v m ac w hR hS T F)
      have hSa := hS
      clear hU hb1 hb2 hb3 hb4
      obtain ⟨ba, bc, rfl, hb1, hb2, hb3, hb4⟩ := hR.base hF
      skip
      have hF := F.size
      have G := callsF F.sub (vars_any (cap := bc) (c2 := pc) _ (hb1.sub F.sub) ((u6.sub hSa).sub F.sub) (by omega) (by simp only [List.length_append, List.flatMap_cons, List.flatMap_nil, List.append_nil]; omega)); refine Sy.sx_callM0 rfl T F (hc := G) (h := ?_); (clear T F G; intro v m ac w hR hS T F)
      repeat (first
    | (((with_reducible refine Sy.is_op ?_); refine Sy.st_pure T (h := ?_); clear T; intro ac T))
    | (with_reducible refine wpList_nil ?_)
    | (with_reducible refine wp_region_lit ?_)
    | (go_at_K; go_step)
    | (simp only [Exit.then, Exit.inBlock, ↓reduceIte, Nat.reduceEqDiff])
    | ((refine Sy.sx_plain (h := ?_)); ((refine Sy.sx_pure T (h := ?_); clear T; intro ac T)); show Sy.wpUx _ _ _ _ _ _ _ _ _)
    | (with_reducible refine Sy.sx_nil ?_)
    | (with_reducible refine Sy.sx_end ?_))
      have hfb := hR.base hF
      have e : L4 ++ (r.done.take k).flatMap doneB ++ [d.client, d.seq, d.rep.err.toNat, d.rep.inc, d.rep.state.toNat].flatMap numB ++ (numB d.rep.vars.length ++ intsB d.rep.vars) = L4 ++ (r.done.take (k + 1)).flatMap doneB := by
        rw [hup]
        unfold doneB repB
        simp
      rw [e] at hfb
      exact Sy.handed hJ (k := r.done.length - (k + 1)) (by omega) ⟨k + 1, m, v, rfl, by omega, (h2S.trans hSa).trans hS, hfb, (T.part (by repeat (first | exact Sy.Part.nil | apply Sy.Part.cons rfl))), (F.sel (by repeat (first | exact Sy.Sel.nil | apply Sy.Sel.cons (by repeat (first | exact Sy.Take.here | apply Sy.Take.there)))))⟩
    obtain rfl : k = r.done.length := by omega
    have t1 : decide ((r.done.length : Int) < (r.done.length : Int)) = false := decide_eq_false (by omega)
    repeat (first
    | (((with_reducible refine Sy.is_load ?_); (refine Sy.st_loadOne T F (h := ?_)); clear T; intro ac T))
    | (((with_reducible refine Sy.is_buildSlice ?_); refine Sy.st_buildSlice T F (h := ?_); (conv => whnf); (repeat (refine ⟨by first | exact rfl | exact ⟨rfl, rfl⟩, ?_⟩; (conv => whnf))); clear T F; intro ac g w T F))
    | (((with_reducible refine Sy.is_op ?_); refine Sy.st_pure T (h := ?_); clear T; intro ac T))
    | ((with_reducible refine Sy.is_cond ?_); (refine Sy.st_false T (h := ?_)))
    | (with_reducible refine wpList_nil ?_)
    | (with_reducible refine wp_region_lit ?_)
    | (with_reducible refine wp_exit ?_)
    | ((with_reducible refine wp_seq_k ?_); intro _ _)
    | (go_at_K; go_step)
    | (simp only [Exit.then, Exit.inBlock, ↓reduceIte, Nat.reduceEqDiff]))
    have hF := F.size
    have hU := u64s_own (ns := [r.out.length]) (F.get Sy.Take.here) rfl (by simp; omega)
    have G := callsF F.sub (nums_any (cap := bc) (c2 := 1) _ (hb1.sub F.sub) hU (by simp) (by simp) (by simp only [List.length_append] at *; omega)); refine Sy.st_callM0 T F (hc := G) (h := ?_); (clear T F G; intro v m ac w hR hS T F)
    replace hR := hR.base hF
    rw [List.take_length, ← hL5] at hR
    have ho := (hd.sub h2S).sub hS
    clear hU hb1 hb2 hb3 hb4 hd h
    repeat (first
    | (((with_reducible refine Sy.is_load ?_); (refine Sy.st_loadOne T F (h := ?_)); clear T; intro ac T))
    | (((with_reducible refine Sy.is_op ?_); refine Sy.st_pure T (h := ?_); clear T; intro ac T))
    | (with_reducible refine wpList_nil ?_)
    | (with_reducible refine wp_region_lit ?_)
    | (with_reducible refine wp_block ?_)
    | ((with_reducible refine wp_seq_k ?_); intro _ _)
    | (go_at_K; go_step)
    | (simp only [Exit.then, Exit.inBlock, ↓reduceIte, Nat.reduceEqDiff]))
    refine wp_loop_ghost_k (fun n0 ac w' => ∃ k m' v, n0 = r.out.length - k ∧ k ≤ r.out.length ∧ Sub m m' ∧ BytF W0.heap.size (L5 ++ (r.out.take k).flatMap cellB) m' v ∧ Sy.Tm ac 130 [(0, v), (3, .pointer (some ⟨b3, 0, none⟩)), (81, .slice oa r.out.length oc), (82, .int .i64 (r.out.length : Int)), (83, .int .i64 (k : Int))] ∧ Sy.Mem ⟨W0, [], W0⟩ m' [⟨b3, regCs r ⟨va, vc, da, dc, oa, oc, ma, mc⟩, 42⟩] w') r.out.length ?_ ?_
    · exact ⟨0, m, v, rfl, Nat.zero_le _, Sub.refl _, by simpa using hR, (T.part (by repeat (first | exact Sy.Part.nil | apply Sy.Part.cons rfl))), (F.sel (by repeat (first | exact Sy.Sel.nil | apply Sy.Sel.cons (by repeat (first | exact Sy.Take.here | apply Sy.Take.there)))))⟩
    clear T F hR hJ hK
    intro n0 ac w hI J K hJ hK
    obtain ⟨k, m3, v3, rfl, hk2, h3S, hv3, T, F⟩ := hI
    obtain ⟨ba, bc, rfl, hb1, hb2, hb3, hb4⟩ := hv3
    have hdk := hcl2 k
    by_cases hlt : k < r.out.length
    · have t1 : decide ((k : Int) < (r.out.length : Int)) = true := decide_eq_true (by omega)
      have t2 : IntKind.i64.wrap ((k : Int) + 1) = ((k + 1 : Nat) : Int) := by rw [i64_wrap (by omega) (by omega)]; omega
      have hq := hok.c _ (List.getElem_mem hlt)
      have hup := fm_up (f := cellB) hlt
      obtain ⟨rb, ro, row, hra, hrl, hrt, hrow⟩ := rows_get (ho.sub h3S).out hlt
      obtain ⟨rfl, u1, u2, u3, u4⟩ := hrow
      generalize r.out[k] = c at *
      unfold U64 at u1
      unfold U8 at u2
      unfold I64 at u4
      have c1 : IntKind.u64.wrap (c.target : Int) = (c.target : Int) := u64_len (by omega)
      have c2 : IntKind.u64.wrap c.action = ((c.action.toNat : Nat) : Int) := nat_u64 (by omega) (by omega)
      have q1 := numB_len u1
      have q2 := numB_len (n := c.target) (by omega)
      have q3 := numB_len (n := c.action.toNat) (by omega)
      replace hra : oa = _ := hra
      subst hra
      repeat (first
    | (((with_reducible refine Sy.is_load ?_); (refine Sy.st_oldAgg T F (h := ?_)); clear T; intro ac T))
    | (((with_reducible refine Sy.is_store ?_); (refine Sy.st_storeAll T F (h := ?_)); clear T F; intro ac w T F))
    | (((with_reducible refine Sy.is_alloc ?_); refine Sy.st_alloc T F (h := ?_); clear T F; intro ac g w T F))
    | (((with_reducible refine Sy.is_op ?_); refine Sy.st_pure T (h := ?_); clear T; intro ac T))
    | ((with_reducible refine Sy.is_cond ?_); (refine Sy.st_true T (h := ?_)))
    | (with_reducible refine wpList_nil ?_)
    | (with_reducible refine wp_region_lit ?_)
    | (with_reducible refine wp_block ?_)
    | (with_reducible refine wp_skip ?_)
    | ((with_reducible refine wp_seq_k ?_); intro _ _)
    | (go_at_K; go_step)
    | (simp only [Exit.then, Exit.inBlock, ↓reduceIte, Nat.reduceEqDiff])
    | ((with_reducible refine Sy.is_drawn (id := 16) ?_); refine Sy.sx_region F [] (.t 0 (.t 1 (.t 2 (.t 3 (.t 4 (.t 5 (.t 6 (.t 7 (.t 8 (.t 11 (.t 12 (.h 9 (.h 10 (.h 13 (.t 14 .e))))))))))))))) [] (by kernel_rfl) ?_; (clear F; intro w F))
    | ((refine Sy.sx_plain (h := ?_)); (first
    | ((with_reducible refine Sy.ux_load ?_); (refine Sy.sx_val (Sy.rx_loadOne T F) T rfl ?_); clear T; intro ac T)
    | (refine Sy.sx_pure T (h := ?_); clear T; intro ac T)); show Sy.wpUx _ _ _ _ _ _ _ _ _)
    | (refine Sy.sx_buildSlice (T := T) (F := F) (h := ?_); (conv => whnf); (repeat (refine ⟨by first | exact rfl | exact ⟨rfl, rfl⟩, ?_⟩; (conv => whnf))); clear T F; intro ac g w T F))
      have hF := F.size
      obtain ⟨g96, rfl⟩ := nameS T 96 rfl
      have hU := u64s_own (ns := [c.n, c.target, c.action.toNat]) (F.get (g := g96) (by repeat (first | exact Sy.Take.here | apply Sy.Take.there))) rfl (by simp; omega)
      have G := callsF F.sub (nums_any (cap := bc) (c2 := 3) _ (hb1.sub F.sub) hU (by simp) (by simp) (by simp only [List.length_append] at *; omega)); refine Sy.sx_callM0 rfl T F (hc := G) (h := ?_); (clear T F G; intro v m ac w hR hS T F)
      have hSa := hS
      clear hU hb1 hb2 hb3 hb4
      obtain ⟨ba, bc, rfl, hb1, hb2, hb3, hb4⟩ := hR.base hF
      skip
      have hF := F.size
      have G := callsF F.sub (putIntF (cap := bc) c.arg (hb1.sub F.sub) u4.1 u4.2 (by simp only [List.length_append, List.flatMap_cons, List.flatMap_nil, List.append_nil]; omega)); refine Sy.sx_callM0 rfl T F (hc := G) (h := ?_); (clear T F G; intro v m ac w hR hS T F)
      repeat (first
    | (((with_reducible refine Sy.is_op ?_); refine Sy.st_pure T (h := ?_); clear T; intro ac T))
    | (with_reducible refine wpList_nil ?_)
    | (with_reducible refine wp_region_lit ?_)
    | (go_at_K; go_step)
    | (simp only [Exit.then, Exit.inBlock, ↓reduceIte, Nat.reduceEqDiff])
    | ((refine Sy.sx_plain (h := ?_)); ((refine Sy.sx_pure T (h := ?_); clear T; intro ac T)); show Sy.wpUx _ _ _ _ _ _ _ _ _)
    | (with_reducible refine Sy.sx_nil ?_)
    | (with_reducible refine Sy.sx_end ?_))
      have hfb := hR.base hF
      have e : L5 ++ (r.out.take k).flatMap cellB ++ [c.n, c.target, c.action.toNat].flatMap numB ++ numB (zig c.arg) = L5 ++ (r.out.take (k + 1)).flatMap cellB := by
        rw [hup]
        unfold cellB
        simp
      rw [e] at hfb
      exact Sy.handed hJ (k := r.out.length - (k + 1)) (by omega) ⟨k + 1, m, v, rfl, by omega, (h3S.trans hSa).trans hS, hfb, (T.part (by repeat (first | exact Sy.Part.nil | apply Sy.Part.cons rfl))), (F.sel (by repeat (first | exact Sy.Sel.nil | apply Sy.Sel.cons (by repeat (first | exact Sy.Take.here | apply Sy.Take.there)))))⟩
    obtain rfl : k = r.out.length := by omega
    have t1 : decide ((r.out.length : Int) < (r.out.length : Int)) = false := decide_eq_false (by omega)
    repeat (first
    | (((with_reducible refine Sy.is_load ?_); (refine Sy.st_loadOne T F (h := ?_)); clear T; intro ac T))
    | (((with_reducible refine Sy.is_buildSlice ?_); refine Sy.st_buildSlice T F (h := ?_); (conv => whnf); (repeat (refine ⟨by first | exact rfl | exact ⟨rfl, rfl⟩, ?_⟩; (conv => whnf))); clear T F; intro ac g w T F))
    | (((with_reducible refine Sy.is_op ?_); refine Sy.st_pure T (h := ?_); clear T; intro ac T))
    | ((with_reducible refine Sy.is_cond ?_); (refine Sy.st_false T (h := ?_)))
    | (with_reducible refine wpList_nil ?_)
    | (with_reducible refine wp_region_lit ?_)
    | (with_reducible refine wp_exit ?_)
    | ((with_reducible refine wp_seq_k ?_); intro _ _)
    | (go_at_K; go_step)
    | (simp only [Exit.then, Exit.inBlock, ↓reduceIte, Nat.reduceEqDiff]))
    have hF := F.size
    have hU := u64s_own (ns := [r.last, r.marks.length]) (F.get Sy.Take.here) rfl (by simp; omega)
    have G := callsF F.sub (nums_any (cap := bc) (c2 := 2) _ (hb1.sub F.sub) hU (by simp) (by simp) (by simp only [List.length_append] at *; omega)); refine Sy.st_callM0 T F (hc := G) (h := ?_); (clear T F G; intro v m ac w hR hS T F)
    replace hR := hR.base hF
    rw [List.take_length, ← hL6] at hR
    have hmm := (ho.sub h3S).sub hS
    clear hU hb1 hb2 hb3 hb4 ho
    repeat (first
    | (((with_reducible refine Sy.is_load ?_); (refine Sy.st_loadOne T F (h := ?_)); clear T; intro ac T))
    | (((with_reducible refine Sy.is_op ?_); refine Sy.st_pure T (h := ?_); clear T; intro ac T))
    | (with_reducible refine wpList_nil ?_)
    | (with_reducible refine wp_region_lit ?_)
    | (with_reducible refine wp_block ?_)
    | ((with_reducible refine wp_seq_k ?_); intro _ _)
    | (go_at_K; go_step)
    | (simp only [Exit.then, Exit.inBlock, ↓reduceIte, Nat.reduceEqDiff]))
    refine wp_loop_ghost_k (fun n0 ac w' => ∃ k m' v, n0 = r.marks.length - k ∧ k ≤ r.marks.length ∧ Sub m m' ∧ BytF W0.heap.size (L6 ++ (r.marks.take k).flatMap markB) m' v ∧ Sy.Tm ac 130 [(0, v), (3, .pointer (some ⟨b3, 0, none⟩)), (112, .slice ma r.marks.length mc), (113, .int .i64 (r.marks.length : Int)), (114, .int .i64 (k : Int))] ∧ Sy.Mem ⟨W0, [], W0⟩ m' [⟨b3, regCs r ⟨va, vc, da, dc, oa, oc, ma, mc⟩, 42⟩] w') r.marks.length ?_ ?_
    · exact ⟨0, m, v, rfl, Nat.zero_le _, Sub.refl _, by simpa using hR, (T.part (by repeat (first | exact Sy.Part.nil | apply Sy.Part.cons rfl))), (F.sel (by repeat (first | exact Sy.Sel.nil | apply Sy.Sel.cons (by repeat (first | exact Sy.Take.here | apply Sy.Take.there)))))⟩
    clear T F hR hJ hK
    intro n0 ac w hI J K hJ hK
    obtain ⟨k, m4, v4, rfl, hk2, h4S, hv4, T, F⟩ := hI
    have hdk := hml2 k
    by_cases hlt : k < r.marks.length
    · obtain ⟨ba, bc, rfl, hb1, hb2, hb3, hb4⟩ := hv4
      have t1 : decide ((k : Int) < (r.marks.length : Int)) = true := decide_eq_true (by omega)
      have t2 : IntKind.i64.wrap ((k : Int) + 1) = ((k + 1 : Nat) : Int) := by rw [i64_wrap (by omega) (by omega)]; omega
      have hup := fm_up (f := markB) hlt
      obtain ⟨rb, ro, row, hra, hrl, hrt, hrow⟩ := rows_get (hmm.sub h4S).marks hlt
      obtain ⟨rfl, u1, u2, u3⟩ := hrow
      generalize r.marks[k] = c at *
      unfold U8 at u1
      unfold U64 at u2 u3
      have c1 : IntKind.u64.wrap (c.source : Int) = (c.source : Int) := u64_len (by omega)
      have q1 := numB_len (n := c.source) (by omega)
      replace hra : ma = _ := hra
      subst hra
      repeat (first
    | (((with_reducible refine Sy.is_load ?_); (first
    | refine Sy.st_loadOne T F (h := ?_)
    | refine Sy.st_oldAgg T F (h := ?_)); clear T; intro ac T))
    | (((with_reducible refine Sy.is_store ?_); (refine Sy.st_storeAll T F (h := ?_)); clear T F; intro ac w T F))
    | (((with_reducible refine Sy.is_alloc ?_); refine Sy.st_alloc T F (h := ?_); clear T F; intro ac g w T F))
    | (((with_reducible refine Sy.is_buildSlice ?_); refine Sy.st_buildSlice T F (h := ?_); (conv => whnf); (repeat (refine ⟨by first | exact rfl | exact ⟨rfl, rfl⟩, ?_⟩; (conv => whnf))); clear T F; intro ac g w T F))
    | (((with_reducible refine Sy.is_op ?_); refine Sy.st_pure T (h := ?_); clear T; intro ac T))
    | ((with_reducible refine Sy.is_cond ?_); (refine Sy.st_true T (h := ?_)))
    | (with_reducible refine wpList_nil ?_)
    | (with_reducible refine wp_region_lit ?_)
    | (with_reducible refine wp_block ?_)
    | (with_reducible refine wp_skip ?_)
    | ((with_reducible refine wp_seq_k ?_); intro _ _)
    | (go_at_K; go_step)
    | (simp only [Exit.then, Exit.inBlock, ↓reduceIte, Nat.reduceEqDiff]))
      have hF := F.size
      have hU := u64s_own (ns := [c.source, c.inc, c.cell]) (F.get Sy.Take.here) rfl (by simp; omega)
      have G := callsF F.sub (nums_any (cap := bc) (c2 := 3) _ (hb1.sub F.sub) hU (by simp) (by simp) (by simp only [List.length_append] at *; omega)); refine Sy.st_callM0 T F (hc := G) (h := ?_); (clear T F G; intro v m ac w hR hS T F)
      repeat (first
    | (((with_reducible refine Sy.is_op ?_); refine Sy.st_pure T (h := ?_); clear T; intro ac T))
    | (with_reducible refine wpList_nil ?_)
    | (with_reducible refine wp_region_lit ?_)
    | (go_at_K; go_step)
    | (simp only [Exit.then, Exit.inBlock, ↓reduceIte, Nat.reduceEqDiff]))
      have hfb := hR.base hF
      have e : L6 ++ (r.marks.take k).flatMap markB ++ [c.source, c.inc, c.cell].flatMap numB = L6 ++ (r.marks.take (k + 1)).flatMap markB := by
        rw [hup]
        unfold markB
        simp
      rw [e] at hfb
      exact Sy.handed hJ (k := r.marks.length - (k + 1)) (by omega) ⟨k + 1, m, v, rfl, by omega, h4S.trans hS, hfb, (T.part (by repeat (first | exact Sy.Part.nil | apply Sy.Part.cons rfl))), (F.sel (by repeat (first | exact Sy.Sel.nil | apply Sy.Sel.cons (by repeat (first | exact Sy.Take.here | apply Sy.Take.there)))))⟩
    obtain rfl : k = r.marks.length := by omega
    have t1 : decide ((r.marks.length : Int) < (r.marks.length : Int)) = false := decide_eq_false (by omega)
    rw [List.take_length, hfin] at hv4
    repeat (first
    | (((with_reducible refine Sy.is_op ?_); refine Sy.st_pure T (h := ?_); clear T; intro ac T))
    | ((with_reducible refine Sy.is_cond ?_); (refine Sy.st_false T (h := ?_)))
    | (with_reducible refine wpList_nil ?_)
    | (with_reducible refine wp_region_lit ?_)
    | (with_reducible refine wp_exit ?_)
    | (with_reducible refine wp_ret ?_)
    | ((with_reducible refine wp_seq_k ?_); intro _ _)
    | (go_at_K; go_step)
    | (simp only [Exit.then, Exit.inBlock, ↓reduceIte, Nat.reduceEqDiff]))
    ((try simp only [Exit.inBlock, Exit.then]); refine Sy.st_ret2 T F rfl (by repeat (first | exact Sy.ResV.nil | apply Sy.ResV.tmp rfl | apply Sy.ResV.row rfl rfl rfl (by repeat (first | exact Sy.Take.here | apply Sy.Take.there)) (by rfl) | apply Sy.ResV.one rfl rfl rfl (by repeat (first | exact Sy.Take.here | apply Sy.Take.there)) (by rfl))) ?_)
    exact F.retM ⟨_, rfl, hv4⟩)
  clear hK7
  repeat (first
    | ((with_reducible refine Sy.is_drawn (id := 6) ?_); refine Sy.sx_region F [] (.t 0 (.t 1 (.t 2 (.t 3 (.t 4 (.t 5 (.t 8 (.t 9 (.t 11 (.t 12 (.t 13 (.t 14 (.f 6 (.f 7 (.f 10 (.h 15 (.h 16 (.t 17 .e))) 15 (.h 10 (.h 16 (.t 17 .e)))) 15 (.h 7 (.h 10 (.h 16 (.t 17 .e))))) 15 (.h 6 (.h 7 (.h 10 (.h 16 (.t 17 .e)))))))))))))))))) [] (by kernel_rfl) ?_; (clear F; intro w F))
    | ((refine Sy.sx_plain (h := ?_)); (first
    | ((with_reducible refine Sy.ux_load ?_); (refine Sy.sx_val (Sy.rx_loadOne T F) T rfl ?_); clear T; intro ac T)
    | (refine Sy.sx_pure T (h := ?_); clear T; intro ac T)); show Sy.wpUx _ _ _ _ _ _ _ _ _)
    | (with_reducible refine Sy.sx_fork ?_ ?_)
    | (refine Sy.sx_buildSlice (T := T) (F := F) (h := ?_); (conv => whnf); (repeat (refine ⟨by first | exact rfl | exact ⟨rfl, rfl⟩, ?_⟩; (conv => whnf))); clear T F; intro ac g w T F))
  all_goals
    repeat ((refine Sy.sx_buildSlice (T := T) (F := F) (h := ?_); (conv => whnf); (repeat (refine ⟨by first | exact rfl | exact ⟨rfl, rfl⟩, ?_⟩; (conv => whnf))); clear T F; intro ac g w T F))
  all_goals
    skip
  all_goals
    have hF := F.size
    obtain ⟨g31, rfl⟩ := nameS T 31 rfl
    have hU := u64s_own (ns := [r.inc, r.state.toNat]) (F.get (g := g31) (by repeat (first | exact Sy.Take.here | apply Sy.Take.there))) rfl (by simp; omega)
    have G := callsF F.sub (nums_any (cap := bc) (c2 := 2) _ (hb1.sub F.sub) hU (by simp) (by simp) (by omega)); refine Sy.sx_callM0 rfl T F (hc := G) (h := ?_); (clear T F G; intro v m ac w hR hS T F)
    have hSa := hS
    rw [← hL2] at hR
    clear hU hb1 hb2 hb3 hb4
    obtain ⟨ba, bc, rfl, hb1, hb2, hb3, hb4⟩ := hR.base hF
    repeat ((with_reducible refine Sy.sx_fork ?_ ?_))
  all_goals
    repeat ((refine Sy.sx_buildSlice (T := T) (F := F) (h := ?_); (conv => whnf); (repeat (refine ⟨by first | exact rfl | exact ⟨rfl, rfl⟩, ?_⟩; (conv => whnf))); clear T F; intro ac g w T F))
  all_goals
    have hF := F.size
    have G := callsF F.sub (vars_any (cap := bc) (c2 := vc) _ (hb1.sub F.sub) ((h.vars.sub hSa).sub F.sub) (by omega) (by omega)); refine Sy.sx_callM0 rfl T F (hc := G) (h := ?_); (clear T F G; intro v m ac w hR hS T F)
    have hSb := hSa.trans hS
    rw [← hL3] at hR
    clear hb1 hb2 hb3 hb4
    obtain ⟨ba, bc, rfl, hb1, hb2, hb3, hb4⟩ := hR.base hF
    repeat ((refine Sy.sx_buildSlice (T := T) (F := F) (h := ?_); (conv => whnf); (repeat (refine ⟨by first | exact rfl | exact ⟨rfl, rfl⟩, ?_⟩; (conv => whnf))); clear T F; intro ac g w T F))
  all_goals
    have hF := F.size
    obtain ⟨g40, rfl⟩ := nameS T 40 rfl
    have hU := u64s_own (ns := [r.done.length]) (F.get (g := g40) (by repeat (first | exact Sy.Take.here | apply Sy.Take.there))) rfl (by simp; omega)
    have G := callsF F.sub (nums_any (cap := bc) (c2 := 1) _ (hb1.sub F.sub) hU (by simp) (by simp) (by omega)); refine Sy.sx_callM0 rfl T F (hc := G) (h := ?_); (clear T F G; intro v m ac w hR hS T F)
    have hSc := hSb.trans hS
    rw [← hL4] at hR
    repeat (first
    | (go_at_K; go_step)
    | (simp only [Exit.then, Exit.inBlock, ↓reduceIte, Nat.reduceEqDiff])
    | ((refine Sy.sx_plain (h := ?_)); ((refine Sy.sx_pure T (h := ?_); clear T; intro ac T)); show Sy.wpUx _ _ _ _ _ _ _ _ _)
    | (with_reducible refine Sy.sx_nil ?_)
    | (with_reducible refine Sy.sx_end ?_))
    exact ⟨_, v, hSc, hR.base hF, (T.part (by repeat (first | exact Sy.Part.nil | apply Sy.Part.cons rfl))), (F.sel (by repeat (first | exact Sy.Sel.nil | apply Sy.Sel.cons (by repeat (first | exact Sy.Take.here | apply Sy.Take.there)))))⟩
end Rg
end Go.Proofs.Ytniopkoaplkpkaa
