/- The walks of engine.mark and engine.done. Conditions: the register is the caller's to write, its keys rise. Printed by a program (genmark.py). -/
import Derived.Test.YtdpmfjbhadapiaaEnH
import Derived.Test.YtdpmfjbhadapiaaInsM
namespace Go.Proofs.Ytdpmfjbhadapiaa
open Go.RowKit
set_option linter.unusedVariables false
set_option linter.unusedSimpArgs false
namespace En
open Sy (RetV RetM Sub RetE RetO)
open Rg (RowsOf flat_len flat_get flat_rows U8 U64 I64 RegD RegA RegAt regCs DoneD DoneR MarkD MarkR CellD CellR doneCs OpD opCs eqT eqF i64_wrap)
open Rc (posN)
theorem putL_take {cs vs : List Value} {o N : Nat} (h : o + vs.length ≤ N) (hN : N ≤ cs.length) : (Sy.putL cs o vs).take N = Sy.putL (cs.take N) o vs := by
  unfold Sy.putL
  have e1 : (cs.take o ++ vs).length = o + vs.length := by simp; omega
  rw [List.take_append, e1, List.take_of_length_le (by omega : (cs.take o ++ vs).length ≤ N), List.take_take, Nat.min_eq_left (by omega), List.drop_take]
theorem perm_k (a b c : Sy.Osl) : [a, b, c].Perm [c, a, b] := (List.perm_append_comm (l₁ := [a, b]) (l₂ := [c]))
theorem perm_o (a b c : Sy.Osl) : [a, b, c].Perm [b, a, c] := .swap b a [c]
set_option maxRecDepth 20000 in
set_option maxHeartbeats 2000000 in
theorem mark_any (W m : World) {g : Nat} {r : RegD} {q : RegA} {cd co cm : List (List Value)} (F : Sy.Handx (nowL r q cd co cm) m W g (regCs r q) 51) (h : NowAt m r q cd co cm) (o : OpD) (hx : o.source < 256) (hx1 : U64 o.inc) (hx2 : U64 o.cell) (hs : (r.marks.map (·.source)).Pairwise (· < ·)) (hl : r.marks.length ≤ 1000) :
    Calls Try.prog 109 #[.pointer (some ⟨g, 0, none⟩), .agg (opCs o).toArray] W (RetE (nowL r q cd co cm) m W g 51 (NowE (.tuple #[]) { r with marks := insK (·.source) r.marks ⟨o.source, o.inc, o.cell⟩ })) := by
  obtain ⟨va, vc, da, dc, oa, oc, ma, mc⟩ := q
  have hlen := h.marks.len
  have hfl := flat_len 3 _ hlen
  have hcl := h.marks.1
  replace F := (F.ownPerm (perm_k _ _ _)).toA
  obtain ⟨_, _, hvv, hxl, hncap, hcapM, _⟩ := F.ext.2.1
  simp only [Value.slice.injEq] at hvv
  rw [← hvv.2.2] at hncap hcapM
  clear hvv
  refine Sy.enter Try.func109 rfl Try.ntmps109 rfl ?_; intro ac T; simp only [Sy.enum, Nat.zero_add, Nat.reduceAdd] at T
  repeat (first
    | (((with_reducible refine Sy.is_load ?_); (refine Sy.st_loadOne T F (h := ?_)); clear T; intro ac T))
    | (((with_reducible refine Sy.is_store ?_); (refine Sy.st_storeAll T F (h := ?_)); clear T F; intro ac w T F))
    | (((with_reducible refine Sy.is_box ?_); (refine Sy.st_boxAgg T F (h := ?_)); clear T F; intro ac g w T F))
    | (((with_reducible refine Sy.is_alloc ?_); refine Sy.st_alloc T F (h := ?_); clear T F; intro ac g w T F))
    | (((with_reducible refine Sy.is_build ?_); refine Sy.st_build T (h := ?_); (conv => whnf); (repeat (refine ⟨by first | exact rfl | exact ⟨rfl, rfl⟩, ?_⟩; (conv => whnf))); clear T; intro ac T))
    | (((with_reducible refine Sy.is_op ?_); refine Sy.st_pure T (h := ?_); clear T; intro ac T))
    | (with_reducible refine wpList_nil ?_)
    | (with_reducible refine wp_region_lit ?_)
    | ((with_reducible refine wp_seq_k ?_); intro _ _)
    | (go_at_K; go_step)
    | (simp only [Exit.then, Exit.inBlock, ↓reduceIte, Nat.reduceEqDiff])
    | ((with_reducible refine Sy.is_drawn (id := 2) ?_); refine Sy.sx_region F [] (.t 0 (.t 1 (.t 2 (.t 3 (.t 4 (.h 5 (.t 6 (.t 7 (.t 8 (.t 9 (.t 10 .e))))))))))) [] (by kernel_rfl) ?_; (clear F; intro w F))
    | ((refine Sy.sx_plain (h := ?_)); (first
    | ((with_reducible refine Sy.ux_load ?_); (first
    | refine Sy.sx_val (Sy.rx_loadOne T F) T rfl ?_
    | refine Sy.sx_val (Sy.rx_loadAll T F) T rfl ?_); clear T; intro ac T)
    | (refine Sy.sx_pure T (h := ?_); clear T; intro ac T)); show Sy.wpUx _ _ _ _ _ _ _ _ _))
  have hrows := own_rows (R := MarkR) (w := w) (by omega : 0 < 3) h.marks (fun _ _ h => h) F.ext.2.1
  have G := bsMark _ (cap := mc) hrows hl hs ⟨o.source, o.inc, o.cell⟩ hx; refine Sy.sx_callV0 rfl T F (hc := G) (h := ?_); (clear T F G; intro ac w T F)
  clear hrows
  have hkp := key_pos (n := o.source) hs
  have hps := Rc.posN_spec o.source hs
  simp only [List.length_map] at hps
  by_cases hin : o.source ∈ r.marks.map (·.source)
  · obtain ⟨hp, he⟩ := hkp.1 hin
    have hI := insK_in (key := (·.source)) (l := r.marks) (x := ⟨o.source, o.inc, o.cell⟩) hin
    rw [decide_eq_true hin] at T
    try simp only at hI
    generalize posN (r.marks.map (·.source)) o.source = pos at *
    obtain ⟨gs, cs, hma, _, hcsl, hnc, hcm, htk, _, F⟩ := F.openSl (show mc ≠ 0 by omega)
    simp only at hma
    subst hma
    repeat (first
    | (((with_reducible refine Sy.is_op ?_); refine Sy.st_pure T (h := ?_); clear T; intro ac T))
    | ((with_reducible refine Sy.is_cond ?_); (refine Sy.st_true T (h := ?_)))
    | (with_reducible refine wpList_nil ?_)
    | (with_reducible refine wp_region_lit ?_)
    | ((with_reducible refine wp_seq_k ?_); intro _ _)
    | (go_at_K; go_step)
    | (simp only [Exit.then, Exit.inBlock, ↓reduceIte, Nat.reduceEqDiff])
    | ((refine Sy.sx_plain (h := ?_)); ((refine Sy.sx_pure T (h := ?_); clear T; intro ac T)); show Sy.wpUx _ _ _ _ _ _ _ _ _)
    | (with_reducible refine Sy.sx_nil ?_)
    | (with_reducible refine Sy.sx_end ?_))
    refine Sy.sx_region F [] (.t 0 (.t 1 (.t 2 (.t 3 (.t 4 (.t 5 .e)))))) [6, 7] (by kernel_rfl) ?_; (clear F; intro w F)
    repeat (first
    | (((with_reducible refine Sy.is_op ?_); refine Sy.st_pure T (h := ?_); clear T; intro ac T))
    | ((with_reducible refine Sy.atK (hK _ _ ?_)))
    | ((refine Sy.sx_plain (h := ?_)); (first
    | ((with_reducible refine Sy.ux_load ?_); (first
    | refine Sy.sx_val (Sy.rx_loadOne T F) T rfl ?_
    | refine Sy.sx_val (Sy.rx_loadAll T F) T rfl ?_); clear T; intro ac T)
    | (refine Sy.sx_pure T (h := ?_); clear T; intro ac T)); show Sy.wpUx _ _ _ _ _ _ _ _ _)
    | (with_reducible refine Sy.sx_nil ?_)
    | (with_reducible refine Sy.sx_tail rfl rfl (fun K hK => ?_)))
    have hrow : MarkR m ([.int .u8 (o.source : Int), .int .u64 (o.inc : Int), .int .u64 (o.cell : Int)]) ⟨o.source, o.inc, o.cell⟩ := ⟨rfl, hx, hx1, hx2⟩
    refine Sy.st_putB T F Sy.Take.here (vs := [.int .u8 (o.source : Int), .int .u64 (o.inc : Int), .int .u64 (o.cell : Int)]) ?_ (mark_one hrow) rfl (h := ?_)
    · show 0 + pos * 3 + 3 ≤ cs.length
      rw [hcsl]
      omega
    clear T F; intro ac w T F
    repeat (first
    | ((with_reducible refine Sy.atK (hK _ _ ?_)))
    | (with_reducible refine wp_ret ?_)
    | (go_at_K; go_step)
    | (simp only [Exit.then, Exit.inBlock, ↓reduceIte, Nat.reduceEqDiff])
    | (with_reducible refine Sy.sx_end ?_))
    refine Sy.st_ret0 T F rfl ?_
    rw [hI]
    have e0 : 0 + pos * 3 = pos * 3 := by omega
    rw [e0] at F
    have ht : (Sy.putL cs (pos * 3) ([.int .u8 (o.source : Int), .int .u64 (o.inc : Int), .int .u64 (o.cell : Int)])).take (r.marks.length * 3) = (cm.set pos ([.int .u8 (o.source : Int), .int .u64 (o.inc : Int), .int .u64 (o.cell : Int)])).flatten := by
      rw [putL_take (show pos * 3 + 3 ≤ r.marks.length * 3 by omega) (by omega), htk]
      exact flat_set 3 cm hlen (by omega) rfl
    have hlput : (Sy.putL cs (pos * 3) ([.int .u8 (o.source : Int), .int .u64 (o.inc : Int), .int .u64 (o.cell : Int)])).length = mc * 3 := by
      rw [Sy.putL_len (show pos * 3 + 3 ≤ cs.length by rw [hcsl]; omega)]; exact hcsl
    have F2 := (F.closeSl hlput hnc hcm ht).ofA.ownPerm ((perm_k _ _ _).symm)
    refine F2.retE (by repeat (first | exact Sy.Take.here | apply Sy.Take.there)) ⟨rfl, ⟨va, vc, da, dc, oa, oc, some ⟨gs, 0, none⟩, mc⟩, cd, co, cm.set pos ([.int .u8 (o.source : Int), .int .u64 (o.inc : Int), .int .u64 (o.cell : Int)]), ?_, ?_, ?_⟩
    · simp [regCs]
    · simp [nowL, doneO, outO, markO]
    · exact ⟨h.kind, h.inc, h.state, h.last, h.vars.sub F.sub0, h.cv, rows_up (fun _ _ h => h.sub F.sub0) h.done, rows_up (R := CellR) (fun _ _ h => h) h.out, rows_set (rows_up (R := MarkR) (m' := m) (fun _ _ h => h) h.marks) rfl hrow pos⟩
  · have hI := insK_out (key := (·.source)) (l := r.marks) (x := ⟨o.source, o.inc, o.cell⟩) hin
    rw [decide_eq_false hin] at T
    try simp only at hI
    generalize posN (r.marks.map (·.source)) o.source = pos at *
    repeat (first
    | (((with_reducible refine Sy.is_op ?_); refine Sy.st_pure T (h := ?_); clear T; intro ac T))
    | ((with_reducible refine Sy.is_cond ?_); (refine Sy.st_false T (h := ?_)))
    | (with_reducible refine wpList_nil ?_)
    | (with_reducible refine wp_region_lit ?_)
    | (with_reducible refine wp_skip ?_)
    | ((with_reducible refine wp_seq_k ?_); intro _ _)
    | (go_at_K; go_step)
    | (simp only [Exit.then, Exit.inBlock, ↓reduceIte, Nat.reduceEqDiff])
    | ((refine Sy.sx_plain (h := ?_)); ((refine Sy.sx_pure T (h := ?_); clear T; intro ac T)); show Sy.wpUx _ _ _ _ _ _ _ _ _)
    | (with_reducible refine Sy.sx_nil ?_)
    | (with_reducible refine Sy.sx_end ?_))
    refine Sy.sx_region F ((blk (.slice ma r.marks.length mc)).toList) (.t 0 (.t 1 (.t 2 (.t 3 (.t 4 (.t 5 (.t 6 (.h 7 (.h 8 .e))))))))) [9, 10, 11] (by kernel_rfl) ?_; (clear F; intro w F)
    repeat (((refine Sy.sx_plain (h := ?_)); ((refine Sy.sx_pure T (h := ?_); clear T; intro ac T)); show Sy.wpUx _ _ _ _ _ _ _ _ _))
    refine Sy.sx_plain rfl rfl (Sy.sx_val (Sy.rx_loadOne T F (hX := (by intro hm; exact (F.loose _ (.inr (Option.mem_toList.1 hm))).2.1 (by simp)))) T rfl ?_); (clear T; intro ac T); show Sy.wpUx _ _ _ _ _ _ _ _ _
    repeat (((refine Sy.sx_plain (h := ?_)); ((refine Sy.sx_pure T (h := ?_); clear T; intro ac T)); show Sy.wpUx _ _ _ _ _ _ _ _ _))
    refine Sy.sx_plain rfl rfl (Sy.sx_val (Sy.rx_loadAll T F (hX := (by intro hm; exact (F.loose _ (.inr (Option.mem_toList.1 hm))).2.1 (by simp)))) T rfl ?_); (clear T; intro ac T); show Sy.wpUx _ _ _ _ _ _ _ _ _
    skip
    refine Sy.sx_buildSliceR rfl T F (h := ?_)
    (conv => whnf); (repeat (refine ⟨by first | exact rfl | exact ⟨rfl, rfl⟩, ?_⟩; (conv => whnf)))
    clear T F; intro ac gn w T F
    skip
    have hrow : MarkR m ([.int .u8 (o.source : Int), .int .u64 (o.inc : Int), .int .u64 (o.cell : Int)]) ⟨o.source, o.inc, o.cell⟩ := ⟨rfl, hx, hx1, hx2⟩
    have hgn := F.get Sy.Take.here
    refine Sy.sx_callO rfl T F (fun k hk => by rw [hk]; simp) (hc := Ins.insertM w F.ext.2.1 (flat_one h.marks (fun _ _ h => mark_one h)) pos (by omega) (news := [.int .u8 (o.source : Int), .int .u64 (o.inc : Int), .int .u64 (o.cell : Int)]) rfl (mark_one hrow) (fun hbk => (F.loose _ (.inr hbk)).2.1 (by simp)) hgn (by omega)) (h := ?_)
    clear T F hgn; intro v' ac w T F
    obtain ⟨ad', cap', rfl⟩ : ∃ ad' cap', v' = .slice ad' (r.marks.length + 1) cap' := by
      obtain ⟨ad, cap, rfl, _⟩ := F.ext.2.1
      exact ⟨ad, cap, rfl⟩
    repeat (first
    | (((with_reducible refine Sy.is_store ?_); ((refine Sy.st_storeOne T F (h := ?_); conv => whnf)); clear T F; intro ac w T F))
    | (((with_reducible refine Sy.is_op ?_); refine Sy.st_pure T (h := ?_); clear T; intro ac T))
    | ((with_reducible refine Sy.atK (hK _ _ ?_)))
    | (with_reducible refine Sy.sx_nil ?_)
    | (with_reducible refine Sy.sx_end ?_)
    | (with_reducible refine Sy.sx_tail rfl rfl (fun K hK => ?_)))
    refine Sy.st_end0 T F rfl ?_
    rw [hI]
    obtain ⟨e1, e2⟩ := flat_take 3 cm hlen pos
    have hx' : cm.flatten.take (pos * 3) ++ ([.int .u8 (o.source : Int), .int .u64 (o.inc : Int), .int .u64 (o.cell : Int)]) ++ cm.flatten.drop (pos * 3) = (cm.take pos ++ ([.int .u8 (o.source : Int), .int .u64 (o.inc : Int), .int .u64 (o.cell : Int)]) :: cm.drop pos).flatten := by
      rw [e1, e2]
      simp
    have hn' : r.marks.length + 1 = (r.marks.take pos ++ (⟨o.source, o.inc, o.cell⟩ : MarkD) :: r.marks.drop pos).length := by
      simp; omega
    rw [hx', hn'] at F
    have F2 := F.ofA.ownPerm ((perm_k _ _ _).symm)
    refine F2.retE (by repeat (first | exact Sy.Take.here | apply Sy.Take.there)) ⟨rfl, ⟨va, vc, da, dc, oa, oc, ad', cap'⟩, cd, co, cm.take pos ++ ([.int .u8 (o.source : Int), .int .u64 (o.inc : Int), .int .u64 (o.cell : Int)]) :: cm.drop pos, ?_, ?_, ?_⟩
    · simp only [regCs, ← hn']
    · rfl
    · exact ⟨h.kind, h.inc, h.state, h.last, h.vars.sub F.sub0, h.cv, rows_up (fun _ _ h => h.sub F.sub0) h.done, rows_up (R := CellR) (fun _ _ h => h) h.out, rows_app (rows_take (rows_up (R := MarkR) (m' := m) (fun _ _ h => h) h.marks) pos) (rows_app (rows_one rfl hrow) (rows_drop (rows_up (R := MarkR) (m' := m) (fun _ _ h => h) h.marks) pos))⟩
set_option maxRecDepth 20000 in
set_option maxHeartbeats 2000000 in
theorem done_any (W m : World) {g : Nat} {r : RegD} {q : RegA} {cd co cm : List (List Value)} (F : Sy.Handx (nowL r q cd co cm) m W g (regCs r q) 51) (h : NowAt m r q cd co cm) (d : DoneD) (p : Rg.RepA) (hd : DoneR m (doneCs d p) d) (hs : (r.done.map (·.client)).Pairwise (· < ·)) (hl : r.done.length ≤ 1000) :
    Calls Try.prog 52 #[.pointer (some ⟨g, 0, none⟩), .agg (doneCs d p).toArray] W (RetE (nowL r q cd co cm) m W g 51 (NowE (.tuple #[]) { r with done := insK (·.client) r.done d })) := by
  obtain ⟨va, vc, da, dc, oa, oc, ma, mc⟩ := q
  have hx : d.client < 256 := by
    obtain ⟨_, _, h1, _⟩ := hd
    exact h1
  have hlen := h.done.len
  have hfl := flat_len 6 _ hlen
  have hcl := h.done.1
  replace F := (F.ownPerm (.refl _)).toA
  obtain ⟨_, _, hvv, hxl, hncap, hcapM, _⟩ := F.ext.2.1
  simp only [Value.slice.injEq] at hvv
  rw [← hvv.2.2] at hncap hcapM
  clear hvv
  refine Sy.enter Try.func52 rfl Try.ntmps52 rfl ?_; intro ac T; simp only [Sy.enum, Nat.zero_add, Nat.reduceAdd] at T
  repeat (first
    | (((with_reducible refine Sy.is_box ?_); (refine Sy.st_boxAgg T F (h := ?_)); clear T F; intro ac g w T F))
    | (with_reducible refine wpList_nil ?_)
    | (with_reducible refine wp_region_lit ?_)
    | ((with_reducible refine wp_seq_k ?_); intro _ _)
    | (go_at_K; go_step)
    | (simp only [Exit.then, Exit.inBlock, ↓reduceIte, Nat.reduceEqDiff])
    | ((with_reducible refine Sy.is_drawn (id := 1) ?_); refine Sy.sx_region F [] (.t 0 (.t 1 (.t 2 (.t 3 (.t 4 (.h 5 (.t 6 (.t 7 (.t 8 (.t 9 (.t 10 .e))))))))))) [] (by kernel_rfl) ?_; (clear F; intro w F))
    | ((refine Sy.sx_plain (h := ?_)); (first
    | ((with_reducible refine Sy.ux_load ?_); (first
    | refine Sy.sx_val (Sy.rx_loadOne T F) T rfl ?_
    | refine Sy.sx_val (Sy.rx_loadAll T F) T rfl ?_); clear T; intro ac T)
    | (refine Sy.sx_pure T (h := ?_); clear T; intro ac T)); show Sy.wpUx _ _ _ _ _ _ _ _ _))
  have hrows := own_rows (R := DoneR) (w := w) (by omega : 0 < 6) h.done (fun _ _ h => h.sub F.sub) F.ext.2.1
  have G := bsDone _ (cap := dc) hrows hl hs d p hx; refine Sy.sx_callV0 rfl T F (hc := G) (h := ?_); (clear T F G; intro ac w T F)
  clear hrows
  have hkp := key_pos (n := d.client) hs
  have hps := Rc.posN_spec d.client hs
  simp only [List.length_map] at hps
  by_cases hin : d.client ∈ r.done.map (·.client)
  · obtain ⟨hp, he⟩ := hkp.1 hin
    have hI := insK_in (key := (·.client)) (l := r.done) (x := d) hin
    rw [decide_eq_true hin] at T
    try simp only at hI
    generalize posN (r.done.map (·.client)) d.client = pos at *
    obtain ⟨gs, cs, hma, _, hcsl, hnc, hcm, htk, _, F⟩ := F.openSl (show dc ≠ 0 by omega)
    simp only at hma
    subst hma
    repeat (first
    | (((with_reducible refine Sy.is_op ?_); refine Sy.st_pure T (h := ?_); clear T; intro ac T))
    | ((with_reducible refine Sy.is_cond ?_); (refine Sy.st_true T (h := ?_)))
    | (with_reducible refine wpList_nil ?_)
    | (with_reducible refine wp_region_lit ?_)
    | ((with_reducible refine wp_seq_k ?_); intro _ _)
    | (go_at_K; go_step)
    | (simp only [Exit.then, Exit.inBlock, ↓reduceIte, Nat.reduceEqDiff])
    | ((refine Sy.sx_plain (h := ?_)); ((refine Sy.sx_pure T (h := ?_); clear T; intro ac T)); show Sy.wpUx _ _ _ _ _ _ _ _ _)
    | (with_reducible refine Sy.sx_nil ?_)
    | (with_reducible refine Sy.sx_end ?_))
    refine Sy.sx_region F [] (.t 0 (.t 1 (.t 2 (.t 3 (.t 4 (.t 5 .e)))))) [6, 7] (by kernel_rfl) ?_; (clear F; intro w F)
    repeat (first
    | (((with_reducible refine Sy.is_op ?_); refine Sy.st_pure T (h := ?_); clear T; intro ac T))
    | ((with_reducible refine Sy.atK (hK _ _ ?_)))
    | ((refine Sy.sx_plain (h := ?_)); (first
    | ((with_reducible refine Sy.ux_load ?_); (first
    | refine Sy.sx_val (Sy.rx_loadOne T F) T rfl ?_
    | refine Sy.sx_val (Sy.rx_loadAll T F) T rfl ?_); clear T; intro ac T)
    | (refine Sy.sx_pure T (h := ?_); clear T; intro ac T)); show Sy.wpUx _ _ _ _ _ _ _ _ _)
    | (with_reducible refine Sy.sx_nil ?_)
    | (with_reducible refine Sy.sx_tail rfl rfl (fun K hK => ?_)))
    have hrow : DoneR m (doneCs d p) d := hd.sub F.sub0
    refine Sy.st_putB T F Sy.Take.here (vs := doneCs d p) ?_ (done_one hrow) rfl (h := ?_)
    · show 0 + pos * 6 + 6 ≤ cs.length
      rw [hcsl]
      omega
    clear T F; intro ac w T F
    repeat (first
    | ((with_reducible refine Sy.atK (hK _ _ ?_)))
    | (with_reducible refine wp_ret ?_)
    | (go_at_K; go_step)
    | (simp only [Exit.then, Exit.inBlock, ↓reduceIte, Nat.reduceEqDiff])
    | (with_reducible refine Sy.sx_end ?_))
    refine Sy.st_ret0 T F rfl ?_
    rw [hI]
    have e0 : 0 + pos * 6 = pos * 6 := by omega
    rw [e0] at F
    have ht : (Sy.putL cs (pos * 6) (doneCs d p)).take (r.done.length * 6) = (cd.set pos (doneCs d p)).flatten := by
      rw [putL_take (show pos * 6 + 6 ≤ r.done.length * 6 by omega) (by omega), htk]
      exact flat_set 6 cd hlen (by omega) rfl
    have hlput : (Sy.putL cs (pos * 6) (doneCs d p)).length = dc * 6 := by
      rw [Sy.putL_len (show pos * 6 + 6 ≤ cs.length by rw [hcsl]; omega)]; exact hcsl
    have F2 := (F.closeSl hlput hnc hcm ht).ofA.ownPerm (.refl _)
    refine F2.retE (by repeat (first | exact Sy.Take.here | apply Sy.Take.there)) ⟨rfl, ⟨va, vc, some ⟨gs, 0, none⟩, dc, oa, oc, ma, mc⟩, cd.set pos (doneCs d p), co, cm, ?_, ?_, ?_⟩
    · simp [regCs]
    · simp [nowL, doneO, outO, markO]
    · exact ⟨h.kind, h.inc, h.state, h.last, h.vars.sub F.sub0, h.cv, rows_set (rows_up (fun _ _ h => h.sub F.sub0) h.done) rfl hrow pos, rows_up (R := CellR) (fun _ _ h => h) h.out, rows_up (R := MarkR) (fun _ _ h => h) h.marks⟩
  · have hI := insK_out (key := (·.client)) (l := r.done) (x := d) hin
    rw [decide_eq_false hin] at T
    try simp only at hI
    generalize posN (r.done.map (·.client)) d.client = pos at *
    repeat (first
    | (((with_reducible refine Sy.is_op ?_); refine Sy.st_pure T (h := ?_); clear T; intro ac T))
    | ((with_reducible refine Sy.is_cond ?_); (refine Sy.st_false T (h := ?_)))
    | (with_reducible refine wpList_nil ?_)
    | (with_reducible refine wp_region_lit ?_)
    | (with_reducible refine wp_skip ?_)
    | ((with_reducible refine wp_seq_k ?_); intro _ _)
    | (go_at_K; go_step)
    | (simp only [Exit.then, Exit.inBlock, ↓reduceIte, Nat.reduceEqDiff])
    | ((refine Sy.sx_plain (h := ?_)); ((refine Sy.sx_pure T (h := ?_); clear T; intro ac T)); show Sy.wpUx _ _ _ _ _ _ _ _ _)
    | (with_reducible refine Sy.sx_nil ?_)
    | (with_reducible refine Sy.sx_end ?_))
    refine Sy.sx_region F ((blk (.slice da r.done.length dc)).toList) (.t 0 (.t 1 (.t 2 (.t 3 (.t 4 (.t 5 (.t 6 (.h 7 (.h 8 .e))))))))) [9, 10, 11] (by kernel_rfl) ?_; (clear F; intro w F)
    repeat (((refine Sy.sx_plain (h := ?_)); ((refine Sy.sx_pure T (h := ?_); clear T; intro ac T)); show Sy.wpUx _ _ _ _ _ _ _ _ _))
    refine Sy.sx_plain rfl rfl (Sy.sx_val (Sy.rx_loadOne T F (hX := (by intro hm; exact (F.loose _ (.inr (Option.mem_toList.1 hm))).2.1 (by simp)))) T rfl ?_); (clear T; intro ac T); show Sy.wpUx _ _ _ _ _ _ _ _ _
    repeat (((refine Sy.sx_plain (h := ?_)); ((refine Sy.sx_pure T (h := ?_); clear T; intro ac T)); show Sy.wpUx _ _ _ _ _ _ _ _ _))
    refine Sy.sx_plain rfl rfl (Sy.sx_val (Sy.rx_loadAll T F (hX := (by intro hm; exact (F.loose _ (.inr (Option.mem_toList.1 hm))).2.1 (by simp)))) T rfl ?_); (clear T; intro ac T); show Sy.wpUx _ _ _ _ _ _ _ _ _
    skip
    refine Sy.sx_buildSliceR rfl T F (h := ?_)
    (conv => whnf); (repeat (refine ⟨by first | exact rfl | exact ⟨rfl, rfl⟩, ?_⟩; (conv => whnf)))
    clear T F; intro ac gn w T F
    skip
    have hrow : DoneR m (doneCs d p) d := hd.sub F.sub0
    have hgn := F.get Sy.Take.here
    refine Sy.sx_callO rfl T F (fun k hk => by rw [hk]; simp) (hc := Ins.insertD w F.ext.2.1 (flat_one h.done (fun _ _ h => done_one h)) pos (by omega) (news := doneCs d p) rfl (done_one hrow) (fun hbk => (F.loose _ (.inr hbk)).2.1 (by simp)) hgn (by omega)) (h := ?_)
    clear T F hgn; intro v' ac w T F
    obtain ⟨ad', cap', rfl⟩ : ∃ ad' cap', v' = .slice ad' (r.done.length + 1) cap' := by
      obtain ⟨ad, cap, rfl, _⟩ := F.ext.2.1
      exact ⟨ad, cap, rfl⟩
    repeat (first
    | (((with_reducible refine Sy.is_store ?_); ((refine Sy.st_storeOne T F (h := ?_); conv => whnf)); clear T F; intro ac w T F))
    | (((with_reducible refine Sy.is_op ?_); refine Sy.st_pure T (h := ?_); clear T; intro ac T))
    | ((with_reducible refine Sy.atK (hK _ _ ?_)))
    | (with_reducible refine Sy.sx_nil ?_)
    | (with_reducible refine Sy.sx_end ?_)
    | (with_reducible refine Sy.sx_tail rfl rfl (fun K hK => ?_)))
    refine Sy.st_end0 T F rfl ?_
    rw [hI]
    obtain ⟨e1, e2⟩ := flat_take 6 cd hlen pos
    have hx' : cd.flatten.take (pos * 6) ++ (doneCs d p) ++ cd.flatten.drop (pos * 6) = (cd.take pos ++ (doneCs d p) :: cd.drop pos).flatten := by
      rw [e1, e2]
      simp
    have hn' : r.done.length + 1 = (r.done.take pos ++ d :: r.done.drop pos).length := by
      simp; omega
    rw [hx', hn'] at F
    have F2 := F.ofA.ownPerm (.refl _)
    refine F2.retE (by repeat (first | exact Sy.Take.here | apply Sy.Take.there)) ⟨rfl, ⟨va, vc, ad', cap', oa, oc, ma, mc⟩, cd.take pos ++ (doneCs d p) :: cd.drop pos, co, cm, ?_, ?_, ?_⟩
    · simp only [regCs, ← hn']
    · rfl
    · exact ⟨h.kind, h.inc, h.state, h.last, h.vars.sub F.sub0, h.cv, rows_app (rows_take (rows_up (fun _ _ h => h.sub F.sub0) h.done) pos) (rows_app (rows_one rfl hrow) (rows_drop (rows_up (fun _ _ h => h.sub F.sub0) h.done) pos)), rows_up (R := CellR) (fun _ _ h => h) h.out, rows_up (R := MarkR) (fun _ _ h => h) h.marks⟩
end En
end Go.Proofs.Ytdpmfjbhadapiaa
