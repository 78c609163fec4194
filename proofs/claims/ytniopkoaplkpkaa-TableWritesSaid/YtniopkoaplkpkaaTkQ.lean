/- The walks of table.nums, table.formula and table.Put. Conditions: what is handed in can be read. Printed by a program (gentkq.py). -/
import Derived.Test.YtniopkoaplkpkaaTkP
import Derived.Test.YtniopkoaplkpkaaStrS
namespace Go.Proofs.Ytniopkoaplkpkaa
open Go.RowKit
set_option linter.unusedVariables false
set_option linter.unusedSimpArgs false
namespace Tk
open Sy (RetV RetM Sub)
open Rg (eqT eqF i64_wrap I64 U8 fm_up)
open Pk (numB numB_len zig zig_lt)
open Tb (SetD EmitD RuleD TabD SetR EmitR RuleR RuleA RuleAt ruleCs tabCs TabAt)
theorem ints_own {w : World} {g : Nat} {ns : List Nat} {cs : List Value} {t : TypeId} (h : w.heap[g]? = some (.cells cs.toArray t (0, 0))) (hcs : cs = ns.map fun (n : Nat) => Value.int .i64 (n : Int)) : ∀ k (hk : k < ns.length), w.cell? ⟨g, 0 + k * 1, none⟩ = some (.int .i64 (ns[k] : Int)) := by
  subst hcs
  intro k hk
  simp [World.cell?, h, hk]
set_option maxRecDepth 20000 in
theorem nums_any (w : World) {a : Option Addr} {cap : Nat} {l : List UInt8} (hb : Bytes w a l.length l) {g c2 : Nat} {ns : List Nat} (h2 : ∀ k (hk : k < ns.length), w.cell? ⟨g, 0 + k * 1, none⟩ = some (.int .i64 (ns[k] : Int))) (hne : 0 < ns.length) (hn : ∀ n ∈ ns, n < 9223372036854775808) (hs : ns.length ≤ 1000) (hsl : l.length ≤ 1000000) :
    Calls Try.prog 41 #[.slice a l.length cap, .slice (some ⟨g, 0, none⟩) ns.length c2] w (RetF w (l ++ ns.flatMap numB)) := by
  have F := Sy.Mem.start (Sub.refl w)
  refine Sy.enter Try.func41 rfl Try.ntmps41 rfl ?_; intro ac T; simp only [Sy.enum, Nat.zero_add, Nat.reduceAdd] at T
  repeat (first
    | (((with_reducible refine Sy.is_op ?_); refine Sy.st_pure T (h := ?_); clear T; intro ac T))
    | (with_reducible refine wpList_nil ?_)
    | (with_reducible refine wp_region_lit ?_)
    | (with_reducible refine wp_block ?_)
    | ((with_reducible refine wp_seq_k ?_); intro _ _)
    | (go_at_K; go_step)
    | (simp only [Exit.then, Exit.inBlock, ↓reduceIte, Nat.reduceEqDiff]))
  refine wp_loop_ghost_k (fun i ac w' => ∃ (k : Nat) (m : World) (v : Value), i = ns.length - k ∧ k ≤ ns.length ∧ Sub w m ∧ (∃ a cap, v = .slice a (l ++ (ns.take k).flatMap numB).length cap ∧ Bytes m a (l ++ (ns.take k).flatMap numB).length (l ++ (ns.take k).flatMap numB)) ∧ (k = 0 ∨ BytF w.heap.size (l ++ (ns.take k).flatMap numB) m v) ∧ (l ++ (ns.take k).flatMap numB).length ≤ 1000000 + 10 * k ∧
    Sy.Tm ac 19 [(0, v), (7, .slice (some ⟨g, 0, none⟩) ns.length c2), (8, .int .i64 (ns.length : Int)), (9, .int .i64 (k : Int))] ∧ Sy.Mem ⟨w, [], w⟩ m [] w') ns.length ?_ ?_
  · exact ⟨0, w, .slice a l.length cap, rfl, Nat.zero_le _, Sub.refl w, ⟨a, cap, by simp, by simpa using hb⟩, .inl rfl, by simpa using hsl, (T.part (by repeat (first | exact Sy.Part.nil | apply Sy.Part.cons rfl))), F⟩
  intro i ac w' hI J K hJ hK
  obtain ⟨k, m, v, rfl, hk, hsub, ⟨a, cap, rfl, hbk⟩, hf, hlen, T, F⟩ := hI
  by_cases hlt : k < ns.length
  · have t1 : decide ((k : Int) < (ns.length : Int)) = true := decide_eq_true (by omega)
    have t2 : IntKind.i64.wrap ((k : Int) + 1) = ((k + 1 : Nat) : Int) := by rw [i64_wrap (by omega) (by omega)]; omega
    have hc := hsub _ _ (h2 k hlt)
    have hx := hn ns[k] (List.getElem_mem _)
    have t3 : IntKind.u64.wrap (ns[k] : Int) = (ns[k] : Int) := by rw [IntKind.wrap_u64]; omega
    have hup : (ns.take (k + 1)).flatMap numB = (ns.take k).flatMap numB ++ numB ns[k] := by
      rw [List.take_succ_eq_append_getElem hlt, List.flatMap_append]
      simp
    have hn10 := numB_len (n := ns[k]) (by omega)
    repeat (first
    | (((with_reducible refine Sy.is_load ?_); (refine Sy.st_oldOne T F (h := ?_)); clear T; intro ac T))
    | (((with_reducible refine Sy.is_op ?_); refine Sy.st_pure T (h := ?_); clear T; intro ac T))
    | ((with_reducible refine Sy.is_cond ?_); (refine Sy.st_true T (h := ?_)))
    | (with_reducible refine wpList_nil ?_)
    | (with_reducible refine wp_region_lit ?_)
    | (with_reducible refine wp_block ?_)
    | (with_reducible refine wp_skip ?_)
    | ((with_reducible refine wp_seq_k ?_); intro _ _)
    | (go_at_K; go_step)
    | (simp only [Exit.then, Exit.inBlock, ↓reduceIte, Nat.reduceEqDiff]))
    have hF := F.size
    refine Sy.st_callM0 T F (hc := callsF F.sub (Pk.putNumF ns[k] (hbk.sub F.sub) (by omega) (by omega))) (h := ?_); (clear T F; intro v m ac w hR hS T F)
    replace hR := hR.base hF
    rw [List.append_assoc, ← hup] at hR
    have hv := hR
    obtain ⟨a', cap', rfl, hb', _⟩ := hv
    repeat (first
    | (((with_reducible refine Sy.is_op ?_); refine Sy.st_pure T (h := ?_); clear T; intro ac T))
    | (with_reducible refine wpList_nil ?_)
    | (with_reducible refine wp_region_lit ?_)
    | (go_at_K; go_step)
    | (simp only [Exit.then, Exit.inBlock, ↓reduceIte, Nat.reduceEqDiff]))
    exact Sy.handed hJ (k := ns.length - (k + 1)) (by omega) ⟨k + 1, m, _, rfl, by omega, hsub.trans hS, ⟨a', cap', rfl, hb'⟩, .inr hR, by rw [hup, ← List.append_assoc, List.length_append]; omega, (T.part (by repeat (first | exact Sy.Part.nil | apply Sy.Part.cons rfl))), F⟩
  · obtain rfl : k = ns.length := by omega
    have t1 : decide ((ns.length : Int) < (ns.length : Int)) = false := decide_eq_false (by omega)
    repeat (first
    | (((with_reducible refine Sy.is_op ?_); refine Sy.st_pure T (h := ?_); clear T; intro ac T))
    | ((with_reducible refine Sy.is_cond ?_); (refine Sy.st_false T (h := ?_)))
    | (with_reducible refine wpList_nil ?_)
    | (with_reducible refine wp_region_lit ?_)
    | (with_reducible refine wp_exit ?_)
    | (with_reducible refine wp_ret ?_)
    | ((with_reducible refine wp_seq_k ?_); intro _ _)
    | (go_at_K; go_step)
    | (simp only [Exit.then, Exit.inBlock, ↓reduceIte, Nat.reduceEqDiff]))
    ((try simp only [Exit.inBlock, Exit.then]); refine Sy.st_ret1 T F rfl (by repeat (first | exact Sy.ResV.nil | apply Sy.ResV.tmp rfl | apply Sy.ResV.row rfl rfl rfl (by repeat (first | exact Sy.Take.here | apply Sy.Take.there)) (by rfl) | apply Sy.ResV.one rfl rfl rfl (by repeat (first | exact Sy.Take.here | apply Sy.Take.there)) (by rfl))) ?_)
    have := hf.resolve_left (by omega)
    rw [List.take_length] at this ⊢
    exact MemE.retF F this

/-- bytes and a number come back, the bytes in new memory -/
def BytP (B : Nat) (l : List UInt8) (n : Int) (m : World) (v : Value) : Prop := ∃ u, v = .tuple #[u, .int .i64 n] ∧ BytF B l m u
theorem toks_at {m : World} {a : Option Addr} {n : Nat} {l : List Ex.Tok} (h : Ex.Toks m a n l) {k : Nat} (hk : k < l.length) : ∃ b o, a = some ⟨b, o, none⟩ ∧ Sy.At m b (o + k * 2) [.int .u8 (l[k].op : Int), .int .i64 l[k].n] := by
  rcases h.2.2.2 with h0 | ⟨b, o, ha, hc⟩
  · subst h0; simp at hk
  · refine ⟨b, o, ha, fun j v hj => ?_⟩
    obtain ⟨q1, q2⟩ := hc k hk
    match j, hj with
    | 0, hj => simp at hj; subst hj; exact q1
    | 1, hj => simp at hj; subst hj; exact q2
theorem toks_some {m : World} {a : Option Addr} {n : Nat} {l : List Ex.Tok} (h : Ex.Toks m a n l) : n = l.length := h.1.symm
set_option maxRecDepth 20000 in
set_option maxHeartbeats 1000000 in
theorem formula_any (w0 : World) {a : Option Addr} {cap : Nat} {l : List UInt8} (hb : Bytes w0 a l.length l) {a2 : Option Addr} {c2 : Nat} {ts : List Ex.Tok} (h2 : Ex.Toks w0 a2 ts.length ts) (hok : ToksOk ts) (hsl : l.length ≤ 900000) :
    Calls Try.prog 42 #[.slice a l.length cap, .slice a2 ts.length c2] w0 (RetF w0 (l ++ formB ts)) := by
  have F := Sy.Mem.start (Sub.refl w0)
  have hl24 := hok.1
  refine Sy.enter Try.func42 rfl Try.ntmps42 rfl ?_; intro ac T; simp only [Sy.enum, Nat.zero_add, Nat.reduceAdd] at T
  repeat (first
    | (((with_reducible refine Sy.is_buildSlice ?_); refine Sy.st_buildSlice T F (h := ?_); (conv => whnf); (repeat (refine ⟨by first | exact rfl | exact ⟨rfl, rfl⟩, ?_⟩; (conv => whnf))); clear T F; intro ac g w T F))
    | (((with_reducible refine Sy.is_op ?_); refine Sy.st_pure T (h := ?_); clear T; intro ac T))
    | (with_reducible refine wpList_nil ?_)
    | (with_reducible refine wp_region_lit ?_)
    | ((with_reducible refine wp_seq_k ?_); intro _ _)
    | (go_at_K; go_step)
    | (simp only [Exit.then, Exit.inBlock, ↓reduceIte, Nat.reduceEqDiff]))
  have hF := F.size
  have hU := ints_own (ns := [ts.length]) (F.get Sy.Take.here) rfl
  have G := callsF F.sub (nums_any (cap := cap) (c2 := 1) _ (hb.sub F.sub) hU (by simp) (by simp; omega) (by simp) (by omega)); refine Sy.st_callM0 T F (hc := G) (h := ?_); (clear T F G; intro v m ac w hR hS T F)
  replace hR := hR.base hF
  have e0 : l ++ [ts.length].flatMap numB = l ++ (numB ts.length ++ (ts.take 0).flatMap tokB) := by simp
  rw [e0] at hR
  have hv := hR
  obtain ⟨a, cap, rfl, hb', _⟩ := hv
  repeat (first
    | (((with_reducible refine Sy.is_op ?_); refine Sy.st_pure T (h := ?_); clear T; intro ac T))
    | (with_reducible refine wpList_nil ?_)
    | (with_reducible refine wp_region_lit ?_)
    | (with_reducible refine wp_block ?_)
    | ((with_reducible refine wp_seq_k ?_); intro _ _)
    | (go_at_K; go_step)
    | (simp only [Exit.then, Exit.inBlock, ↓reduceIte, Nat.reduceEqDiff]))
  refine wp_loop_ghost_k (fun i ac w' => ∃ (k : Nat) (m : World) (v : Value), i = ts.length - k ∧ k ≤ ts.length ∧ Sub w0 m ∧ BytF w0.heap.size (l ++ (numB ts.length ++ (ts.take k).flatMap tokB)) m v ∧
    Sy.Tm ac 29 [(0, v), (12, .slice a2 ts.length c2), (13, .int .i64 (ts.length : Int)), (14, .int .i64 (k : Int))] ∧ Sy.Mem ⟨w0, [], w0⟩ m [] w') ts.length ?_ ?_
  · exact ⟨0, m, _, rfl, Nat.zero_le _, hS, hR, (T.part (by repeat (first | exact Sy.Part.nil | apply Sy.Part.cons rfl))), (F.sel (by repeat (first | exact Sy.Sel.nil | apply Sy.Sel.cons (by repeat (first | exact Sy.Take.here | apply Sy.Take.there)))))⟩
  clear T F hR hS hU
  intro i ac w hI J K hJ hK
  obtain ⟨k, m, v, rfl, hk, hsub, hbk, T, F⟩ := hI
  by_cases hlt : k < ts.length
  · have t1 : decide ((k : Int) < (ts.length : Int)) = true := decide_eq_true (by omega)
    have t2 : IntKind.i64.wrap ((k : Int) + 1) = ((k + 1 : Nat) : Int) := by rw [i64_wrap (by omega) (by omega)]; omega
    obtain ⟨rb, ro, ha, hat⟩ := toks_at (h2.sub hsub) hlt
    subst ha
    have hup := fm_up (f := tokB) hlt
    have hn10 := numB_len (n := ts.length) (by omega)
    have hx := hok.2 ts[k] (List.getElem_mem _)
    have hlen : ((ts.take k).flatMap tokB).length ≤ 20 * 24 := by
      have q := Rg.fm_len (f := tokB) (c := 20) (l := ts.take k) (fun t ht => by
        have ho := hok.2 t (List.mem_of_mem_take ht)
        have q1 := numB_len (n := t.op) (by have := ho.1; omega)
        have q2 := numB_len (zig_lt ho.2.1 ho.2.2)
        unfold tokB
        rw [List.length_append]
        omega)
      have : (ts.take k).length ≤ 24 := by rw [List.length_take]; omega
      omega
    generalize ts[k] = x at *
    have c1 : IntKind.i64.wrap (x.op : Int) = (x.op : Int) := by have := hx.1; rw [i64_wrap (by omega) (by omega)]
    have ho1 := hx.1
    obtain ⟨ba, bc, rfl, hb1, hb2, hb3, hb4⟩ := hbk
    repeat (first
    | (((with_reducible refine Sy.is_load ?_); (refine Sy.st_oldAgg T F (h := ?_)); clear T; intro ac T))
    | (((with_reducible refine Sy.is_store ?_); (refine Sy.st_storeAll T F (h := ?_)); clear T F; intro ac w T F))
    | (((with_reducible refine Sy.is_alloc ?_); refine Sy.st_alloc T F (h := ?_); clear T F; intro ac g w T F))
    | (((with_reducible refine Sy.is_op ?_); refine Sy.st_pure T (h := ?_); clear T; intro ac T))
    | ((with_reducible refine Sy.is_cond ?_); (refine Sy.st_true T (h := ?_)))
    | (with_reducible refine wpList_nil ?_)
    | (with_reducible refine wp_region_lit ?_)
    | (with_reducible refine wp_block ?_)
    | (with_reducible refine wp_skip ?_)
    | ((with_reducible refine wp_seq_k ?_); intro _ _)
    | (go_at_K; go_step)
    | (simp only [Exit.then, Exit.inBlock, ↓reduceIte, Nat.reduceEqDiff])
    | ((with_reducible refine Sy.is_drawn (id := 5) ?_); refine Sy.sx_region F [] (.t 0 (.t 1 (.t 2 (.t 3 (.t 6 (.t 7 (.h 4 (.h 5 (.h 8 (.t 9 .e)))))))))) [] (by kernel_rfl) ?_; (clear F; intro w F))
    | ((refine Sy.sx_plain (h := ?_)); (first
    | ((with_reducible refine Sy.ux_load ?_); (refine Sy.sx_val (Sy.rx_loadOne T F) T rfl ?_); clear T; intro ac T)
    | (refine Sy.sx_pure T (h := ?_); clear T; intro ac T)); show Sy.wpUx _ _ _ _ _ _ _ _ _)
    | (refine Sy.sx_buildSlice (T := T) (F := F) (h := ?_); (conv => whnf); (repeat (refine ⟨by first | exact rfl | exact ⟨rfl, rfl⟩, ?_⟩; (conv => whnf))); clear T F; intro ac g w T F))
    have hF := F.size
    have hU := ints_own (ns := [x.op]) (F.get Sy.Take.here) rfl
    have G := callsF F.sub (nums_any (cap := bc) (c2 := 1) _ (hb1.sub F.sub) hU (by simp) (by simp; omega) (by simp) (by simp only [List.length_append]; omega)); refine Sy.sx_callM0 rfl T F (hc := G) (h := ?_); (clear T F G; intro v m ac w hR hS T F)
    clear hU hb1 hb2 hb3 hb4
    have hSa := hS
    obtain ⟨ba, bc, rfl, hb1, hb2, hb3, hb4⟩ := hR.base hF
    have hq1 := numB_len (n := x.op) (by omega)
    skip
    have hF := F.size
    have G := callsF F.sub (Pk.putIntF (cap := bc) x.n (hb1.sub F.sub) hx.2.1 hx.2.2 (by simp only [List.length_append, List.flatMap_cons, List.flatMap_nil, List.append_nil]; omega)); refine Sy.sx_callM0 rfl T F (hc := G) (h := ?_); (clear T F G; intro v m ac w hR hS T F)
    repeat (first
    | (((with_reducible refine Sy.is_op ?_); refine Sy.st_pure T (h := ?_); clear T; intro ac T))
    | (with_reducible refine wpList_nil ?_)
    | (with_reducible refine wp_region_lit ?_)
    | (go_at_K; go_step)
    | (simp only [Exit.then, Exit.inBlock, ↓reduceIte, Nat.reduceEqDiff])
    | ((refine Sy.sx_plain (h := ?_)); ((refine Sy.sx_pure T (h := ?_); clear T; intro ac T)); show Sy.wpUx _ _ _ _ _ _ _ _ _)
    | (with_reducible refine Sy.sx_nil ?_)
    | (with_reducible refine Sy.sx_end ?_))
    have hfb := hR.base hF
    have e : l ++ (numB ts.length ++ (ts.take k).flatMap tokB) ++ [x.op].flatMap numB ++ numB (zig x.n) = l ++ (numB ts.length ++ (ts.take (k + 1)).flatMap tokB) := by
      rw [hup]
      unfold tokB
      simp
    rw [e] at hfb
    exact Sy.handed hJ (k := ts.length - (k + 1)) (by omega) ⟨k + 1, m, v, rfl, by omega, (hsub.trans hSa).trans hS, hfb, (T.part (by repeat (first | exact Sy.Part.nil | apply Sy.Part.cons rfl))), (F.sel (by repeat (first | exact Sy.Sel.nil | apply Sy.Sel.cons (by repeat (first | exact Sy.Take.here | apply Sy.Take.there)))))⟩
  · obtain rfl : k = ts.length := by omega
    have t1 : decide ((ts.length : Int) < (ts.length : Int)) = false := decide_eq_false (by omega)
    rw [List.take_length] at hbk
    repeat (first
    | (((with_reducible refine Sy.is_op ?_); refine Sy.st_pure T (h := ?_); clear T; intro ac T))
    | ((with_reducible refine Sy.is_cond ?_); (refine Sy.st_false T (h := ?_)))
    | (with_reducible refine wpList_nil ?_)
    | (with_reducible refine wp_region_lit ?_)
    | (with_reducible refine wp_exit ?_)
    | (with_reducible refine wp_ret ?_)
    | ((with_reducible refine wp_seq_k ?_); intro _ _)
    | (go_at_K; go_step)
    | (simp only [Exit.then, Exit.inBlock, ↓reduceIte, Nat.reduceEqDiff]))
    ((try simp only [Exit.inBlock, Exit.then]); refine Sy.st_ret1 T F rfl (by repeat (first | exact Sy.ResV.nil | apply Sy.ResV.tmp rfl | apply Sy.ResV.row rfl rfl rfl (by repeat (first | exact Sy.Take.here | apply Sy.Take.there)) (by rfl) | apply Sy.ResV.one rfl rfl rfl (by repeat (first | exact Sy.Take.here | apply Sy.Take.there)) (by rfl))) ?_)
    exact MemE.retF F hbk
end Tk
end Go.Proofs.Ytniopkoaplkpkaa
