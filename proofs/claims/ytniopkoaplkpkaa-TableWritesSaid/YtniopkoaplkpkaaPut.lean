/- The walk of reg.Put. Conditions: the bytes and the register can be read; its lists are short. -/
import Derived.Test.YtniopkoaplkpkaaMayC
import Derived.Test.YtniopkoaplkpkaaRegP
namespace Go.Proofs.Ytniopkoaplkpkaa
open Go.RowKit
set_option linter.unusedVariables false
set_option linter.unusedSimpArgs false
namespace Rg
open Sy (RetV RetM Sub)
open Pk
/-- the bytes of a register that may be -/
def repB (r : RepD) : List UInt8 := numB r.err.toNat ++ (numB r.inc ++ (numB r.state.toNat ++ (numB r.vars.length ++ intsB r.vars)))
def doneB (d : DoneD) : List UInt8 := numB d.client ++ (numB d.seq ++ repB d.rep)
def cellB (c : CellD) : List UInt8 := numB c.n ++ (numB c.target ++ (numB c.action.toNat ++ numB (zig c.arg)))
def markB (m : MarkD) : List UInt8 := numB m.source ++ (numB m.inc ++ numB m.cell)
def headB (r : RegD) : List UInt8 := numB r.kind ++ (numB r.inc ++ (numB r.state.toNat ++ (numB r.vars.length ++ intsB r.vars)))
def regB (r : RegD) : List UInt8 := if r.kind = 0 then numB r.kind else headB r ++ (numB r.done.length ++ (r.done.flatMap doneB ++ (numB r.out.length ++ (r.out.flatMap cellB ++ (numB r.last ++ (numB r.marks.length ++ r.marks.flatMap markB))))))
theorem u64s_own {w : World} {g : Nat} {ns : List Nat} {cs : List Value} {t : TypeId} (h : w.heap[g]? = some (.cells cs.toArray t (0, 0))) (hcs : cs = ns.map fun (n : Nat) => Value.int .u64 (n : Int)) (hn : ∀ n ∈ ns, n < 18446744073709551616) : U64s w (some ⟨g, 0, none⟩) ns := by
  subst hcs
  refine ⟨.inr ⟨g, 0, rfl, fun i hi => ?_⟩, hn⟩
  have hi' : i < ns.length := by simpa using hi
  simp [World.cell?, h, hi']
/-- bytes and a number come back, the bytes in new memory -/
def BytP (B : Nat) (l : List UInt8) (n : Int) (m : World) (v : Value) : Prop := ∃ u, v = .tuple #[u, .int .i64 n] ∧ BytF B l m u
theorem bytF_nil (B : Nat) (m : World) : BytF B [] m (.slice none 0 0) := ⟨none, 0, rfl, Bytes.nil _ _, Nat.le_refl _, Nat.zero_le _, .inl rfl⟩
theorem nat_u64 {x : Int} (h0 : 0 ≤ x) (h1 : x < 18446744073709551616) : IntKind.u64.wrap x = ((x.toNat : Nat) : Int) := by rw [IntKind.wrap_u64]; omega

set_option maxRecDepth 20000 in
theorem put_no (w : World) {a : Option Addr} {cap : Nat} {l : List UInt8} (r : RegD) (p : RegA) (h : RegAt w r p) (hs : Short r) (hm : mayS r = false) :
    Calls Try.prog 19 #[.slice a l.length cap, .agg (regCs r p).toArray] w (RetV w (.tuple #[.slice none 0 0, .int .i64 3])) := by
  have F := Sy.Mem.start (Sub.refl w)
  have G := fun w' (hs' : Sub w w') => may_any w' r p (h.sub hs') hs
  rw [hm] at G
  refine Sy.enter Try.func19 rfl Try.ntmps19 rfl ?_; intro ac T; simp only [Sy.enum, Nat.zero_add, Nat.reduceAdd] at T
  repeat (first
    | (((with_reducible refine Sy.is_load ?_); (first | refine Sy.st_loadOne T F (h := ?_) | refine Sy.st_oldOne T F (h := ?_) | refine Sy.st_loadAll T F (h := ?_) | (refine Sy.st_loadCut T F (h := ?_); conv => whnf) | refine Sy.st_oldAgg T F (h := ?_) | (refine Sy.st_oldCut T F (h := ?_); conv => whnf)); clear T; intro ac T))
    | (((with_reducible refine Sy.is_store ?_); (first | refine Sy.st_storeAll T F (h := ?_) | (refine Sy.st_storeOne T F (h := ?_); conv => whnf) | (refine Sy.st_storeAgg T F (h := ?_); conv => whnf)); clear T F; intro ac w T F))
    | (((with_reducible refine Sy.is_box ?_); (first | refine Sy.st_boxAgg T F (h := ?_) | refine Sy.st_boxOne T F (h := ?_)); clear T F; intro ac g w T F))
    | (((with_reducible refine Sy.is_alloc ?_); refine Sy.st_alloc T F (h := ?_); clear T F; intro ac g w T F))
    | (((with_reducible refine Sy.is_buildSlice ?_); refine Sy.st_buildSlice T F (h := ?_); (conv => whnf); (repeat (refine ⟨by first | exact rfl | exact ⟨rfl, rfl⟩, ?_⟩; (conv => whnf))); clear T F; intro ac g w T F))
    | (((with_reducible refine Sy.is_op ?_); refine Sy.st_pure T (h := ?_); clear T; intro ac T))
    | ((with_reducible refine Sy.atK (hK _ _ ?_)))
    | ((with_reducible refine Sy.is_cond ?_); (first | refine Sy.st_true T (h := ?_) | refine Sy.st_false T (h := ?_)))
    | (with_reducible refine wpList_nil ?_)
    | (with_reducible refine wp_region_lit ?_)
    | (with_reducible refine wp_block ?_)
    | (with_reducible refine wp_skip ?_)
    | (with_reducible refine wp_exit ?_)
    | (with_reducible refine wp_ret ?_)
    | ((with_reducible refine wp_seq_k ?_); intro _ _)
    | (go_at_K; go_step)
    | (simp only [Exit.then, Exit.inBlock, ↓reduceIte, Nat.reduceEqDiff])
    | ((with_reducible refine Sy.is_drawn (id := 10) ?_); refine Sy.sx_region F [] (.t 0 (.t 1 (.t 2 (.t 3 (.t 4 (.t 5 (.t 6 (.t 7 (.t 8 (.t 9 (.t 10 (.t 11 (.t 12 (.t 13 (.t 14 (.t 15 (.t 16 (.t 19 (.t 20 (.t 21 (.h 17 (.h 18 (.h 22 (.t 23 .e)))))))))))))))))))))))) [] (by kernel_rfl) ?_; (clear F; intro w F))
    | ((with_reducible refine Sy.is_drawn (id := 16) ?_); refine Sy.sx_region F [] (.t 0 (.t 1 (.t 2 (.t 3 (.t 4 (.t 5 (.t 6 (.t 7 (.t 8 (.t 11 (.t 12 (.h 9 (.h 10 (.h 13 (.t 14 .e))))))))))))))) [] (by kernel_rfl) ?_; (clear F; intro w F))
    | ((with_reducible refine Sy.is_drawn (id := 6) ?_); refine Sy.sx_region F [] (.t 0 (.t 1 (.t 2 (.t 3 (.t 4 (.t 5 (.t 8 (.t 9 (.t 11 (.t 12 (.t 13 (.t 14 (.f 6 (.f 7 (.f 10 (.h 15 (.h 16 (.t 17 .e))) 15 (.h 10 (.h 16 (.t 17 .e)))) 15 (.h 7 (.h 10 (.h 16 (.t 17 .e))))) 15 (.h 6 (.h 7 (.h 10 (.h 16 (.t 17 .e)))))))))))))))))) [] (by kernel_rfl) ?_; (clear F; intro w F))
    | ((first | refine Sy.sx_plain (h := ?_) | refine Sy.sx_guard (T := T) (h := ?_)); (first | ((with_reducible refine Sy.ux_load ?_); (first | refine Sy.sx_val (Sy.rx_loadOne T F) T rfl ?_ | refine Sy.sx_val (Sy.rx_oldOne T F) T rfl ?_ | refine Sy.sx_val (Sy.rx_loadAll T F) T rfl ?_ | (refine Sy.sx_loadCut T F (h := ?_); conv => whnf) | refine Sy.sx_val (Sy.rx_oldAgg T F) T rfl ?_ | (refine Sy.sx_oldCut T F (h := ?_); conv => whnf)); clear T; intro ac T) | (refine Sy.sx_pure T (h := ?_); clear T; intro ac T)); show Sy.wpUx _ _ _ _ _ _ _ _ _)
    | (with_reducible refine Sy.sx_fork ?_ ?_)
    | (with_reducible refine Sy.sx_nil ?_)
    | (with_reducible refine Sy.sx_end ?_)
    | (with_reducible refine Sy.sx_tail rfl rfl (fun K hK => ?_))
    | ((first | refine Sy.sx_new (T := T) (F := F) (hr := Sy.new_boxAgg T rfl) (h := ?_) | refine Sy.sx_new (T := T) (F := F) (hr := Sy.new_boxOne T rfl rfl) (h := ?_) | refine Sy.sx_new (T := T) (F := F) (hr := Sy.new_alloc rfl) (h := ?_)); clear T F; intro ac g w T F)
    | (refine Sy.sx_buildSlice (T := T) (F := F) (h := ?_); (conv => whnf); (repeat (refine ⟨by first | exact rfl | exact ⟨rfl, rfl⟩, ?_⟩; (conv => whnf))); clear T F; intro ac g w T F)
    | ((first | refine Sy.sx_storeAll (T := T) (F := F) (h := ?_) | (refine Sy.sx_storeOne (T := T) (F := F) (h := ?_); conv => whnf) | (refine Sy.sx_storeAgg (T := T) (F := F) (h := ?_); conv => whnf)); clear T F; intro ac w T F))
  refine Sy.st_callV0 T F (hc := G _ F.sub) (h := ?_); (clear T F; intro ac w T F)
  repeat (first
    | (((with_reducible refine Sy.is_load ?_); (first | refine Sy.st_loadOne T F (h := ?_) | refine Sy.st_oldOne T F (h := ?_) | refine Sy.st_loadAll T F (h := ?_) | (refine Sy.st_loadCut T F (h := ?_); conv => whnf) | refine Sy.st_oldAgg T F (h := ?_) | (refine Sy.st_oldCut T F (h := ?_); conv => whnf)); clear T; intro ac T))
    | (((with_reducible refine Sy.is_store ?_); (first | refine Sy.st_storeAll T F (h := ?_) | (refine Sy.st_storeOne T F (h := ?_); conv => whnf) | (refine Sy.st_storeAgg T F (h := ?_); conv => whnf)); clear T F; intro ac w T F))
    | (((with_reducible refine Sy.is_box ?_); (first | refine Sy.st_boxAgg T F (h := ?_) | refine Sy.st_boxOne T F (h := ?_)); clear T F; intro ac g w T F))
    | (((with_reducible refine Sy.is_alloc ?_); refine Sy.st_alloc T F (h := ?_); clear T F; intro ac g w T F))
    | (((with_reducible refine Sy.is_buildSlice ?_); refine Sy.st_buildSlice T F (h := ?_); (conv => whnf); (repeat (refine ⟨by first | exact rfl | exact ⟨rfl, rfl⟩, ?_⟩; (conv => whnf))); clear T F; intro ac g w T F))
    | (((with_reducible refine Sy.is_op ?_); refine Sy.st_pure T (h := ?_); clear T; intro ac T))
    | ((with_reducible refine Sy.atK (hK _ _ ?_)))
    | ((with_reducible refine Sy.is_cond ?_); (first | refine Sy.st_true T (h := ?_) | refine Sy.st_false T (h := ?_)))
    | (with_reducible refine wpList_nil ?_)
    | (with_reducible refine wp_region_lit ?_)
    | (with_reducible refine wp_block ?_)
    | (with_reducible refine wp_skip ?_)
    | (with_reducible refine wp_exit ?_)
    | (with_reducible refine wp_ret ?_)
    | ((with_reducible refine wp_seq_k ?_); intro _ _)
    | (go_at_K; go_step)
    | (simp only [Exit.then, Exit.inBlock, ↓reduceIte, Nat.reduceEqDiff])
    | ((with_reducible refine Sy.is_drawn (id := 10) ?_); refine Sy.sx_region F [] (.t 0 (.t 1 (.t 2 (.t 3 (.t 4 (.t 5 (.t 6 (.t 7 (.t 8 (.t 9 (.t 10 (.t 11 (.t 12 (.t 13 (.t 14 (.t 15 (.t 16 (.t 19 (.t 20 (.t 21 (.h 17 (.h 18 (.h 22 (.t 23 .e)))))))))))))))))))))))) [] (by kernel_rfl) ?_; (clear F; intro w F))
    | ((with_reducible refine Sy.is_drawn (id := 16) ?_); refine Sy.sx_region F [] (.t 0 (.t 1 (.t 2 (.t 3 (.t 4 (.t 5 (.t 6 (.t 7 (.t 8 (.t 11 (.t 12 (.h 9 (.h 10 (.h 13 (.t 14 .e))))))))))))))) [] (by kernel_rfl) ?_; (clear F; intro w F))
    | ((with_reducible refine Sy.is_drawn (id := 6) ?_); refine Sy.sx_region F [] (.t 0 (.t 1 (.t 2 (.t 3 (.t 4 (.t 5 (.t 8 (.t 9 (.t 11 (.t 12 (.t 13 (.t 14 (.f 6 (.f 7 (.f 10 (.h 15 (.h 16 (.t 17 .e))) 15 (.h 10 (.h 16 (.t 17 .e)))) 15 (.h 7 (.h 10 (.h 16 (.t 17 .e))))) 15 (.h 6 (.h 7 (.h 10 (.h 16 (.t 17 .e)))))))))))))))))) [] (by kernel_rfl) ?_; (clear F; intro w F))
    | ((first | refine Sy.sx_plain (h := ?_) | refine Sy.sx_guard (T := T) (h := ?_)); (first | ((with_reducible refine Sy.ux_load ?_); (first | refine Sy.sx_val (Sy.rx_loadOne T F) T rfl ?_ | refine Sy.sx_val (Sy.rx_oldOne T F) T rfl ?_ | refine Sy.sx_val (Sy.rx_loadAll T F) T rfl ?_ | (refine Sy.sx_loadCut T F (h := ?_); conv => whnf) | refine Sy.sx_val (Sy.rx_oldAgg T F) T rfl ?_ | (refine Sy.sx_oldCut T F (h := ?_); conv => whnf)); clear T; intro ac T) | (refine Sy.sx_pure T (h := ?_); clear T; intro ac T)); show Sy.wpUx _ _ _ _ _ _ _ _ _)
    | (with_reducible refine Sy.sx_fork ?_ ?_)
    | (with_reducible refine Sy.sx_nil ?_)
    | (with_reducible refine Sy.sx_end ?_)
    | (with_reducible refine Sy.sx_tail rfl rfl (fun K hK => ?_))
    | ((first | refine Sy.sx_new (T := T) (F := F) (hr := Sy.new_boxAgg T rfl) (h := ?_) | refine Sy.sx_new (T := T) (F := F) (hr := Sy.new_boxOne T rfl rfl) (h := ?_) | refine Sy.sx_new (T := T) (F := F) (hr := Sy.new_alloc rfl) (h := ?_)); clear T F; intro ac g w T F)
    | (refine Sy.sx_buildSlice (T := T) (F := F) (h := ?_); (conv => whnf); (repeat (refine ⟨by first | exact rfl | exact ⟨rfl, rfl⟩, ?_⟩; (conv => whnf))); clear T F; intro ac g w T F)
    | ((first | refine Sy.sx_storeAll (T := T) (F := F) (h := ?_) | (refine Sy.sx_storeOne (T := T) (F := F) (h := ?_); conv => whnf) | (refine Sy.sx_storeAgg (T := T) (F := F) (h := ?_); conv => whnf)); clear T F; intro ac w T F))
  ((try simp only [Exit.inBlock, Exit.then]); refine Sy.st_ret2 T F rfl (by repeat (first | exact Sy.ResV.nil | apply Sy.ResV.tmp rfl | apply Sy.ResV.row rfl rfl rfl (by repeat (first | exact Sy.Take.here | apply Sy.Take.there)) (by rfl) | apply Sy.ResV.one rfl rfl rfl (by repeat (first | exact Sy.Take.here | apply Sy.Take.there)) (by rfl))) ?_)
  exact F.retV _
set_option maxRecDepth 20000 in
theorem put_0 (W0 : World) {a : Option Addr} {cap : Nat} {l : List UInt8} (hb : Bytes W0 a l.length l) (hl : l.length ≤ 70368744000000) (r : RegD) (p : RegA) (h : RegAt W0 r p) (hs : Short r) (hm : mayS r = true) (hk : r.kind = 0) :
    Calls Try.prog 19 #[.slice a l.length cap, .agg (regCs r p).toArray] W0 (RetM W0 W0 (BytP W0.heap.size (l ++ regB r) 0)) := by
  have F := Sy.Mem.start (Sub.refl W0)
  have G := fun w' (hs' : Sub W0 w') => may_any w' r p (h.sub hs') hs
  rw [hm] at G
  have a1 := eqT (a := (r.kind : Int)) (b := 0) (by omega)
  have hk8 := h.kind
  unfold U8 at hk8
  have a2 : IntKind.u64.wrap (r.kind : Int) = (r.kind : Int) := by rw [IntKind.wrap_u64]; omega
  refine Sy.enter Try.func19 rfl Try.ntmps19 rfl ?_; intro ac T; simp only [Sy.enum, Nat.zero_add, Nat.reduceAdd] at T
  repeat (first
    | (((with_reducible refine Sy.is_load ?_); (first | refine Sy.st_loadOne T F (h := ?_) | refine Sy.st_oldOne T F (h := ?_) | refine Sy.st_loadAll T F (h := ?_) | (refine Sy.st_loadCut T F (h := ?_); conv => whnf) | refine Sy.st_oldAgg T F (h := ?_) | (refine Sy.st_oldCut T F (h := ?_); conv => whnf)); clear T; intro ac T))
    | (((with_reducible refine Sy.is_store ?_); (first | refine Sy.st_storeAll T F (h := ?_) | (refine Sy.st_storeOne T F (h := ?_); conv => whnf) | (refine Sy.st_storeAgg T F (h := ?_); conv => whnf)); clear T F; intro ac w T F))
    | (((with_reducible refine Sy.is_box ?_); (first | refine Sy.st_boxAgg T F (h := ?_) | refine Sy.st_boxOne T F (h := ?_)); clear T F; intro ac g w T F))
    | (((with_reducible refine Sy.is_alloc ?_); refine Sy.st_alloc T F (h := ?_); clear T F; intro ac g w T F))
    | (((with_reducible refine Sy.is_buildSlice ?_); refine Sy.st_buildSlice T F (h := ?_); (conv => whnf); (repeat (refine ⟨by first | exact rfl | exact ⟨rfl, rfl⟩, ?_⟩; (conv => whnf))); clear T F; intro ac g w T F))
    | (((with_reducible refine Sy.is_op ?_); refine Sy.st_pure T (h := ?_); clear T; intro ac T))
    | ((with_reducible refine Sy.atK (hK _ _ ?_)))
    | ((with_reducible refine Sy.is_cond ?_); (first | refine Sy.st_true T (h := ?_) | refine Sy.st_false T (h := ?_)))
    | (with_reducible refine wpList_nil ?_)
    | (with_reducible refine wp_region_lit ?_)
    | (with_reducible refine wp_block ?_)
    | (with_reducible refine wp_skip ?_)
    | (with_reducible refine wp_exit ?_)
    | (with_reducible refine wp_ret ?_)
    | ((with_reducible refine wp_seq_k ?_); intro _ _)
    | (go_at_K; go_step)
    | (simp only [Exit.then, Exit.inBlock, ↓reduceIte, Nat.reduceEqDiff])
    | ((with_reducible refine Sy.is_drawn (id := 10) ?_); refine Sy.sx_region F [] (.t 0 (.t 1 (.t 2 (.t 3 (.t 4 (.t 5 (.t 6 (.t 7 (.t 8 (.t 9 (.t 10 (.t 11 (.t 12 (.t 13 (.t 14 (.t 15 (.t 16 (.t 19 (.t 20 (.t 21 (.h 17 (.h 18 (.h 22 (.t 23 .e)))))))))))))))))))))))) [] (by kernel_rfl) ?_; (clear F; intro w F))
    | ((with_reducible refine Sy.is_drawn (id := 16) ?_); refine Sy.sx_region F [] (.t 0 (.t 1 (.t 2 (.t 3 (.t 4 (.t 5 (.t 6 (.t 7 (.t 8 (.t 11 (.t 12 (.h 9 (.h 10 (.h 13 (.t 14 .e))))))))))))))) [] (by kernel_rfl) ?_; (clear F; intro w F))
    | ((with_reducible refine Sy.is_drawn (id := 6) ?_); refine Sy.sx_region F [] (.t 0 (.t 1 (.t 2 (.t 3 (.t 4 (.t 5 (.t 8 (.t 9 (.t 11 (.t 12 (.t 13 (.t 14 (.f 6 (.f 7 (.f 10 (.h 15 (.h 16 (.t 17 .e))) 15 (.h 10 (.h 16 (.t 17 .e)))) 15 (.h 7 (.h 10 (.h 16 (.t 17 .e))))) 15 (.h 6 (.h 7 (.h 10 (.h 16 (.t 17 .e)))))))))))))))))) [] (by kernel_rfl) ?_; (clear F; intro w F))
    | ((first | refine Sy.sx_plain (h := ?_) | refine Sy.sx_guard (T := T) (h := ?_)); (first | ((with_reducible refine Sy.ux_load ?_); (first | refine Sy.sx_val (Sy.rx_loadOne T F) T rfl ?_ | refine Sy.sx_val (Sy.rx_oldOne T F) T rfl ?_ | refine Sy.sx_val (Sy.rx_loadAll T F) T rfl ?_ | (refine Sy.sx_loadCut T F (h := ?_); conv => whnf) | refine Sy.sx_val (Sy.rx_oldAgg T F) T rfl ?_ | (refine Sy.sx_oldCut T F (h := ?_); conv => whnf)); clear T; intro ac T) | (refine Sy.sx_pure T (h := ?_); clear T; intro ac T)); show Sy.wpUx _ _ _ _ _ _ _ _ _)
    | (with_reducible refine Sy.sx_fork ?_ ?_)
    | (with_reducible refine Sy.sx_nil ?_)
    | (with_reducible refine Sy.sx_end ?_)
    | (with_reducible refine Sy.sx_tail rfl rfl (fun K hK => ?_))
    | ((first | refine Sy.sx_new (T := T) (F := F) (hr := Sy.new_boxAgg T rfl) (h := ?_) | refine Sy.sx_new (T := T) (F := F) (hr := Sy.new_boxOne T rfl rfl) (h := ?_) | refine Sy.sx_new (T := T) (F := F) (hr := Sy.new_alloc rfl) (h := ?_)); clear T F; intro ac g w T F)
    | (refine Sy.sx_buildSlice (T := T) (F := F) (h := ?_); (conv => whnf); (repeat (refine ⟨by first | exact rfl | exact ⟨rfl, rfl⟩, ?_⟩; (conv => whnf))); clear T F; intro ac g w T F)
    | ((first | refine Sy.sx_storeAll (T := T) (F := F) (h := ?_) | (refine Sy.sx_storeOne (T := T) (F := F) (h := ?_); conv => whnf) | (refine Sy.sx_storeAgg (T := T) (F := F) (h := ?_); conv => whnf)); clear T F; intro ac w T F))
  refine Sy.st_callV0 T F (hc := G _ F.sub) (h := ?_); (clear T F; intro ac w T F)
  repeat (first
    | (((with_reducible refine Sy.is_load ?_); (first | refine Sy.st_loadOne T F (h := ?_) | refine Sy.st_oldOne T F (h := ?_) | refine Sy.st_loadAll T F (h := ?_) | (refine Sy.st_loadCut T F (h := ?_); conv => whnf) | refine Sy.st_oldAgg T F (h := ?_) | (refine Sy.st_oldCut T F (h := ?_); conv => whnf)); clear T; intro ac T))
    | (((with_reducible refine Sy.is_store ?_); (first | refine Sy.st_storeAll T F (h := ?_) | (refine Sy.st_storeOne T F (h := ?_); conv => whnf) | (refine Sy.st_storeAgg T F (h := ?_); conv => whnf)); clear T F; intro ac w T F))
    | (((with_reducible refine Sy.is_box ?_); (first | refine Sy.st_boxAgg T F (h := ?_) | refine Sy.st_boxOne T F (h := ?_)); clear T F; intro ac g w T F))
    | (((with_reducible refine Sy.is_alloc ?_); refine Sy.st_alloc T F (h := ?_); clear T F; intro ac g w T F))
    | (((with_reducible refine Sy.is_buildSlice ?_); refine Sy.st_buildSlice T F (h := ?_); (conv => whnf); (repeat (refine ⟨by first | exact rfl | exact ⟨rfl, rfl⟩, ?_⟩; (conv => whnf))); clear T F; intro ac g w T F))
    | (((with_reducible refine Sy.is_op ?_); refine Sy.st_pure T (h := ?_); clear T; intro ac T))
    | ((with_reducible refine Sy.atK (hK _ _ ?_)))
    | ((with_reducible refine Sy.is_cond ?_); (first | refine Sy.st_true T (h := ?_) | refine Sy.st_false T (h := ?_)))
    | (with_reducible refine wpList_nil ?_)
    | (with_reducible refine wp_region_lit ?_)
    | (with_reducible refine wp_block ?_)
    | (with_reducible refine wp_skip ?_)
    | (with_reducible refine wp_exit ?_)
    | (with_reducible refine wp_ret ?_)
    | ((with_reducible refine wp_seq_k ?_); intro _ _)
    | (go_at_K; go_step)
    | (simp only [Exit.then, Exit.inBlock, ↓reduceIte, Nat.reduceEqDiff])
    | ((with_reducible refine Sy.is_drawn (id := 10) ?_); refine Sy.sx_region F [] (.t 0 (.t 1 (.t 2 (.t 3 (.t 4 (.t 5 (.t 6 (.t 7 (.t 8 (.t 9 (.t 10 (.t 11 (.t 12 (.t 13 (.t 14 (.t 15 (.t 16 (.t 19 (.t 20 (.t 21 (.h 17 (.h 18 (.h 22 (.t 23 .e)))))))))))))))))))))))) [] (by kernel_rfl) ?_; (clear F; intro w F))
    | ((with_reducible refine Sy.is_drawn (id := 16) ?_); refine Sy.sx_region F [] (.t 0 (.t 1 (.t 2 (.t 3 (.t 4 (.t 5 (.t 6 (.t 7 (.t 8 (.t 11 (.t 12 (.h 9 (.h 10 (.h 13 (.t 14 .e))))))))))))))) [] (by kernel_rfl) ?_; (clear F; intro w F))
    | ((with_reducible refine Sy.is_drawn (id := 6) ?_); refine Sy.sx_region F [] (.t 0 (.t 1 (.t 2 (.t 3 (.t 4 (.t 5 (.t 8 (.t 9 (.t 11 (.t 12 (.t 13 (.t 14 (.f 6 (.f 7 (.f 10 (.h 15 (.h 16 (.t 17 .e))) 15 (.h 10 (.h 16 (.t 17 .e)))) 15 (.h 7 (.h 10 (.h 16 (.t 17 .e))))) 15 (.h 6 (.h 7 (.h 10 (.h 16 (.t 17 .e)))))))))))))))))) [] (by kernel_rfl) ?_; (clear F; intro w F))
    | ((first | refine Sy.sx_plain (h := ?_) | refine Sy.sx_guard (T := T) (h := ?_)); (first | ((with_reducible refine Sy.ux_load ?_); (first | refine Sy.sx_val (Sy.rx_loadOne T F) T rfl ?_ | refine Sy.sx_val (Sy.rx_oldOne T F) T rfl ?_ | refine Sy.sx_val (Sy.rx_loadAll T F) T rfl ?_ | (refine Sy.sx_loadCut T F (h := ?_); conv => whnf) | refine Sy.sx_val (Sy.rx_oldAgg T F) T rfl ?_ | (refine Sy.sx_oldCut T F (h := ?_); conv => whnf)); clear T; intro ac T) | (refine Sy.sx_pure T (h := ?_); clear T; intro ac T)); show Sy.wpUx _ _ _ _ _ _ _ _ _)
    | (with_reducible refine Sy.sx_fork ?_ ?_)
    | (with_reducible refine Sy.sx_nil ?_)
    | (with_reducible refine Sy.sx_end ?_)
    | (with_reducible refine Sy.sx_tail rfl rfl (fun K hK => ?_))
    | ((first | refine Sy.sx_new (T := T) (F := F) (hr := Sy.new_boxAgg T rfl) (h := ?_) | refine Sy.sx_new (T := T) (F := F) (hr := Sy.new_boxOne T rfl rfl) (h := ?_) | refine Sy.sx_new (T := T) (F := F) (hr := Sy.new_alloc rfl) (h := ?_)); clear T F; intro ac g w T F)
    | (refine Sy.sx_buildSlice (T := T) (F := F) (h := ?_); (conv => whnf); (repeat (refine ⟨by first | exact rfl | exact ⟨rfl, rfl⟩, ?_⟩; (conv => whnf))); clear T F; intro ac g w T F)
    | ((first | refine Sy.sx_storeAll (T := T) (F := F) (h := ?_) | (refine Sy.sx_storeOne (T := T) (F := F) (h := ?_); conv => whnf) | (refine Sy.sx_storeAgg (T := T) (F := F) (h := ?_); conv => whnf)); clear T F; intro ac w T F))
  have hF := F.size
  have hU := u64s_own (ns := [r.kind]) (F.get Sy.Take.here) rfl (by simp; omega)
  have G := callsF F.sub (nums_any (cap := cap) (c2 := 1) _ (hb.sub F.sub) hU (by simp) (by simp) hl); refine Sy.st_callM0 T F (hc := G) (h := ?_); (clear T F G; intro v m ac w hR hS T F)
  replace hR := hR.base hF
  repeat (first
    | (((with_reducible refine Sy.is_load ?_); (first | refine Sy.st_loadOne T F (h := ?_) | refine Sy.st_oldOne T F (h := ?_) | refine Sy.st_loadAll T F (h := ?_) | (refine Sy.st_loadCut T F (h := ?_); conv => whnf) | refine Sy.st_oldAgg T F (h := ?_) | (refine Sy.st_oldCut T F (h := ?_); conv => whnf)); clear T; intro ac T))
    | (((with_reducible refine Sy.is_store ?_); (first | refine Sy.st_storeAll T F (h := ?_) | (refine Sy.st_storeOne T F (h := ?_); conv => whnf) | (refine Sy.st_storeAgg T F (h := ?_); conv => whnf)); clear T F; intro ac w T F))
    | (((with_reducible refine Sy.is_box ?_); (first | refine Sy.st_boxAgg T F (h := ?_) | refine Sy.st_boxOne T F (h := ?_)); clear T F; intro ac g w T F))
    | (((with_reducible refine Sy.is_alloc ?_); refine Sy.st_alloc T F (h := ?_); clear T F; intro ac g w T F))
    | (((with_reducible refine Sy.is_buildSlice ?_); refine Sy.st_buildSlice T F (h := ?_); (conv => whnf); (repeat (refine ⟨by first | exact rfl | exact ⟨rfl, rfl⟩, ?_⟩; (conv => whnf))); clear T F; intro ac g w T F))
    | (((with_reducible refine Sy.is_op ?_); refine Sy.st_pure T (h := ?_); clear T; intro ac T))
    | ((with_reducible refine Sy.atK (hK _ _ ?_)))
    | ((with_reducible refine Sy.is_cond ?_); (first | refine Sy.st_true T (h := ?_) | refine Sy.st_false T (h := ?_)))
    | (with_reducible refine wpList_nil ?_)
    | (with_reducible refine wp_region_lit ?_)
    | (with_reducible refine wp_block ?_)
    | (with_reducible refine wp_skip ?_)
    | (with_reducible refine wp_exit ?_)
    | (with_reducible refine wp_ret ?_)
    | ((with_reducible refine wp_seq_k ?_); intro _ _)
    | (go_at_K; go_step)
    | (simp only [Exit.then, Exit.inBlock, ↓reduceIte, Nat.reduceEqDiff])
    | ((with_reducible refine Sy.is_drawn (id := 10) ?_); refine Sy.sx_region F [] (.t 0 (.t 1 (.t 2 (.t 3 (.t 4 (.t 5 (.t 6 (.t 7 (.t 8 (.t 9 (.t 10 (.t 11 (.t 12 (.t 13 (.t 14 (.t 15 (.t 16 (.t 19 (.t 20 (.t 21 (.h 17 (.h 18 (.h 22 (.t 23 .e)))))))))))))))))))))))) [] (by kernel_rfl) ?_; (clear F; intro w F))
    | ((with_reducible refine Sy.is_drawn (id := 16) ?_); refine Sy.sx_region F [] (.t 0 (.t 1 (.t 2 (.t 3 (.t 4 (.t 5 (.t 6 (.t 7 (.t 8 (.t 11 (.t 12 (.h 9 (.h 10 (.h 13 (.t 14 .e))))))))))))))) [] (by kernel_rfl) ?_; (clear F; intro w F))
    | ((with_reducible refine Sy.is_drawn (id := 6) ?_); refine Sy.sx_region F [] (.t 0 (.t 1 (.t 2 (.t 3 (.t 4 (.t 5 (.t 8 (.t 9 (.t 11 (.t 12 (.t 13 (.t 14 (.f 6 (.f 7 (.f 10 (.h 15 (.h 16 (.t 17 .e))) 15 (.h 10 (.h 16 (.t 17 .e)))) 15 (.h 7 (.h 10 (.h 16 (.t 17 .e))))) 15 (.h 6 (.h 7 (.h 10 (.h 16 (.t 17 .e)))))))))))))))))) [] (by kernel_rfl) ?_; (clear F; intro w F))
    | ((first | refine Sy.sx_plain (h := ?_) | refine Sy.sx_guard (T := T) (h := ?_)); (first | ((with_reducible refine Sy.ux_load ?_); (first | refine Sy.sx_val (Sy.rx_loadOne T F) T rfl ?_ | refine Sy.sx_val (Sy.rx_oldOne T F) T rfl ?_ | refine Sy.sx_val (Sy.rx_loadAll T F) T rfl ?_ | (refine Sy.sx_loadCut T F (h := ?_); conv => whnf) | refine Sy.sx_val (Sy.rx_oldAgg T F) T rfl ?_ | (refine Sy.sx_oldCut T F (h := ?_); conv => whnf)); clear T; intro ac T) | (refine Sy.sx_pure T (h := ?_); clear T; intro ac T)); show Sy.wpUx _ _ _ _ _ _ _ _ _)
    | (with_reducible refine Sy.sx_fork ?_ ?_)
    | (with_reducible refine Sy.sx_nil ?_)
    | (with_reducible refine Sy.sx_end ?_)
    | (with_reducible refine Sy.sx_tail rfl rfl (fun K hK => ?_))
    | ((first | refine Sy.sx_new (T := T) (F := F) (hr := Sy.new_boxAgg T rfl) (h := ?_) | refine Sy.sx_new (T := T) (F := F) (hr := Sy.new_boxOne T rfl rfl) (h := ?_) | refine Sy.sx_new (T := T) (F := F) (hr := Sy.new_alloc rfl) (h := ?_)); clear T F; intro ac g w T F)
    | (refine Sy.sx_buildSlice (T := T) (F := F) (h := ?_); (conv => whnf); (repeat (refine ⟨by first | exact rfl | exact ⟨rfl, rfl⟩, ?_⟩; (conv => whnf))); clear T F; intro ac g w T F)
    | ((first | refine Sy.sx_storeAll (T := T) (F := F) (h := ?_) | (refine Sy.sx_storeOne (T := T) (F := F) (h := ?_); conv => whnf) | (refine Sy.sx_storeAgg (T := T) (F := F) (h := ?_); conv => whnf)); clear T F; intro ac w T F))
  ((try simp only [Exit.inBlock, Exit.then]); refine Sy.st_ret2 T F rfl (by repeat (first | exact Sy.ResV.nil | apply Sy.ResV.tmp rfl | apply Sy.ResV.row rfl rfl rfl (by repeat (first | exact Sy.Take.here | apply Sy.Take.there)) (by rfl) | apply Sy.ResV.one rfl rfl rfl (by repeat (first | exact Sy.Take.here | apply Sy.Take.there)) (by rfl))) ?_)
  refine F.retM ⟨_, rfl, ?_⟩
  have e : regB r = [r.kind].flatMap numB := by unfold regB; rw [if_pos hk]; simp
  rw [e]
  exact hR
end Rg
end Go.Proofs.Ytniopkoaplkpkaa
