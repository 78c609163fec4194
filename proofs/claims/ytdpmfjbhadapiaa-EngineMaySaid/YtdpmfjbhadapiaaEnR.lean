/- The walks of Next, the code's and the document's. Conditions: the register can be read; for the document's its cells' numbers rise. The walk of the law EngineMay. Conditions: what is handed in can be read. -/
import Derived.Test.YtdpmfjbhadapiaaEnC
import Derived.Test.YtdpmfjbhadapiaaEnP
import Derived.Test.YtdpmfjbhadapiaaEnA
import Derived.Test.YtdpmfjbhadapiaaRegD
import Derived.Test.YtdpmfjbhadapiaaRfC
namespace Go.Proofs.Ytdpmfjbhadapiaa
open Go.RowKit
set_option linter.unusedVariables false
set_option linter.unusedSimpArgs false
namespace En
open Sy (RetV RetM Sub)
open Rg (and2 or2 retBb not_t not_f eqT eqF i64_up CellD CellR RegD RegA RegAt regCs)
def cellL (c : CellD) : List Value := [.int .u64 (c.n : Int), .int .u8 (c.target : Int), .int .i64 c.action, .int .i64 c.arg]
def zeroC : CellD := ⟨0, 0, 0, 0⟩
def toT (target : Int) (c : CellD) : Bool := (c.target : Int) == target
def nextV (l : List CellD) (target : Int) : Value := match l.find? (toT target) with | none => .tuple #[.agg (cellL zeroC).toArray, .bool false] | some c => .tuple #[.agg (cellL c).toArray, .bool true]
theorem find_up {p : CellD → Bool} {l : List CellD} {k : Nat} (hk : k < l.length) : (l.take (k + 1)).find? p = ((l.take k).find? p).or (if p l[k] then some l[k] else none) := by
  rw [List.take_succ_eq_append_getElem hk, List.find?_append]
  congr 1
  rw [List.find?_cons]
  cases p l[k] <;> rfl
theorem find_take {p : CellD → Bool} {l : List CellD} {k : Nat} {c : CellD} (h : (l.take k).find? p = some c) : l.find? p = some c := by
  have e : l.find? p = (l.take k ++ l.drop k).find? p := by rw [List.take_append_drop]
  rw [e, List.find?_append, h]
  rfl
set_option maxRecDepth 20000 in
set_option maxHeartbeats 1000000 in
theorem next_any (w0 : World) (r : RegD) (p : RegA) (h : RegAt w0 r p) (target : Int) :
    Calls Try.prog 35 #[.agg (regCs r p).toArray, .int .u8 target] w0 (RetV w0 (nextV r.out target)) := by
  have F := Sy.Mem.start (Sub.refl w0)
  obtain ⟨va, vc, da, dc, oa, oc, ma, mc⟩ := p
  have hm := h.out
  have hl := hm.1
  simp only at hm
  refine Sy.enter Try.func35 rfl Try.ntmps35 rfl ?_; intro ac T; simp only [Sy.enum, Nat.zero_add, Nat.reduceAdd] at T
  repeat (first
    | (((with_reducible refine Sy.is_load ?_); (refine Sy.st_loadOne T F (h := ?_)); clear T; intro ac T))
    | (((with_reducible refine Sy.is_box ?_); (refine Sy.st_boxAgg T F (h := ?_)); clear T F; intro ac g w T F))
    | (((with_reducible refine Sy.is_alloc ?_); refine Sy.st_alloc T F (h := ?_); clear T F; intro ac g w T F))
    | (((with_reducible refine Sy.is_op ?_); refine Sy.st_pure T (h := ?_); clear T; intro ac T))
    | (with_reducible refine wpList_nil ?_)
    | (with_reducible refine wp_region_lit ?_)
    | (with_reducible refine wp_block ?_)
    | ((with_reducible refine wp_seq_k ?_); intro _ _)
    | (go_at_K; go_step)
    | (simp only [Exit.then, Exit.inBlock, ↓reduceIte, Nat.reduceEqDiff]))
  refine Sy.loop1 (fun g4 n ac w' => ∃ (k : Nat), n = r.out.length - k ∧ k ≤ r.out.length ∧ (r.out.take k).find? (toT target) = none ∧
    Sy.Tm ac 22 [(1, .int .u8 target), (4, .pointer (some ⟨g4, 0, none⟩)), (5, .bool false), (9, .slice oa r.out.length oc), (10, .int .i64 (r.out.length : Int)), (11, .int .i64 (k : Int))] ∧
    Sy.Mem ⟨w0, [], w0⟩ w0 [⟨g4, cellL zeroC, 47⟩] w') r.out.length (by exact ⟨0, rfl, Nat.zero_le _, rfl, (T.part (by repeat (first | exact Sy.Part.nil | apply Sy.Part.cons rfl))), (F.sel (by repeat (first | exact Sy.Sel.nil | apply Sy.Sel.cons (by repeat (first | exact Sy.Take.here | apply Sy.Take.there)))))⟩) ?_
  clear T F
  intro n ac w hI J K hJ hK
  obtain ⟨k, rfl, hk, hno, T, F⟩ := hI
  by_cases hlt : k < r.out.length
  · have v1 : decide ((k : Int) < (r.out.length : Int)) = true := decide_eq_true (by omega)
    have v2 := i64_up hlt hl
    obtain ⟨b, o, cs, hsa, hcl, hat, rfl, hb⟩ := rows_get hm hlt
    subst hsa
    have hup := find_up (p := toT target) hlt
    rw [hno, Option.none_or] at hup
    cases t1 : ((r.out[k].target : Int) == target)
    · have hp : toT target r.out[k] = false := t1
      rw [hp] at hup
      repeat (first
    | (((with_reducible refine Sy.is_load ?_); (first
    | refine Sy.st_loadOne T F (h := ?_)
    | refine Sy.st_oldAgg T F (h := ?_)); clear T; intro ac T))
    | (((with_reducible refine Sy.is_store ?_); (refine Sy.st_storeAll T F (h := ?_)); clear T F; intro ac w T F))
    | (((with_reducible refine Sy.is_alloc ?_); refine Sy.st_alloc T F (h := ?_); clear T F; intro ac g w T F))
    | (((with_reducible refine Sy.is_op ?_); refine Sy.st_pure T (h := ?_); clear T; intro ac T))
    | ((with_reducible refine Sy.is_cond ?_); (first
    | refine Sy.st_true T (h := ?_)
    | refine Sy.st_false T (h := ?_)))
    | (with_reducible refine wpList_nil ?_)
    | (with_reducible refine wp_region_lit ?_)
    | (with_reducible refine wp_block ?_)
    | (with_reducible refine wp_skip ?_)
    | ((with_reducible refine wp_seq_k ?_); intro _ _)
    | (go_at_K; go_step)
    | (simp only [Exit.then, Exit.inBlock, ↓reduceIte, Nat.reduceEqDiff]))
      exact Sy.handed hJ (k := r.out.length - (k + 1)) (by omega) ⟨k + 1, rfl, by omega, hup, (T.part (by repeat (first | exact Sy.Part.nil | apply Sy.Part.cons rfl))), (F.sel (by repeat (first | exact Sy.Sel.nil | apply Sy.Sel.cons (by repeat (first | exact Sy.Take.here | apply Sy.Take.there)))))⟩
    · have hp : toT target r.out[k] = true := t1
      rw [hp, if_pos rfl] at hup
      repeat (first
    | (((with_reducible refine Sy.is_load ?_); (first
    | refine Sy.st_loadOne T F (h := ?_)
    | refine Sy.st_loadAll T F (h := ?_)
    | refine Sy.st_oldAgg T F (h := ?_)); clear T; intro ac T))
    | (((with_reducible refine Sy.is_store ?_); (refine Sy.st_storeAll T F (h := ?_)); clear T F; intro ac w T F))
    | (((with_reducible refine Sy.is_alloc ?_); refine Sy.st_alloc T F (h := ?_); clear T F; intro ac g w T F))
    | (((with_reducible refine Sy.is_op ?_); refine Sy.st_pure T (h := ?_); clear T; intro ac T))
    | ((with_reducible refine Sy.is_cond ?_); (refine Sy.st_true T (h := ?_)))
    | (with_reducible refine wpList_nil ?_)
    | (with_reducible refine wp_region_lit ?_)
    | (with_reducible refine wp_block ?_)
    | (with_reducible refine wp_skip ?_)
    | (with_reducible refine wp_ret ?_)
    | ((with_reducible refine wp_seq_k ?_); intro _ _)
    | (go_at_K; go_step)
    | (simp only [Exit.then, Exit.inBlock, ↓reduceIte, Nat.reduceEqDiff]))
      ((try simp only [Exit.inBlock, Exit.then]); refine Sy.st_ret2 T F rfl (by repeat (first | exact Sy.ResV.nil | apply Sy.ResV.tmp rfl | apply Sy.ResV.row rfl rfl rfl (by repeat (first | exact Sy.Take.here | apply Sy.Take.there)) (by rfl) | apply Sy.ResV.one rfl rfl rfl (by repeat (first | exact Sy.Take.here | apply Sy.Take.there)) (by rfl))) ?_)
      have hfin : nextV r.out target = .tuple #[.agg (cellL r.out[k]).toArray, .bool true] := by
        unfold nextV
        rw [find_take hup]
      rw [hfin]
      exact F.retV _
  obtain rfl : k = r.out.length := by omega
  have v1 : decide ((r.out.length : Int) < (r.out.length : Int)) = false := decide_eq_false (by omega)
  rw [List.take_length] at hno
  repeat (first
    | (((with_reducible refine Sy.is_store ?_); (refine Sy.st_storeAll T F (h := ?_)); clear T F; intro ac w T F))
    | (((with_reducible refine Sy.is_build ?_); refine Sy.st_build T (h := ?_); (conv => whnf); (repeat (refine ⟨by first | exact rfl | exact ⟨rfl, rfl⟩, ?_⟩; (conv => whnf))); clear T; intro ac T))
    | (((with_reducible refine Sy.is_op ?_); refine Sy.st_pure T (h := ?_); clear T; intro ac T))
    | ((with_reducible refine Sy.is_cond ?_); (refine Sy.st_false T (h := ?_)))
    | (with_reducible refine wpList_nil ?_)
    | (with_reducible refine wp_region_lit ?_)
    | (with_reducible refine wp_exit ?_)
    | (with_reducible refine wp_ret ?_)
    | ((with_reducible refine wp_seq_k ?_); intro _ _)
    | (go_at_K; go_step)
    | (simp only [Exit.then, Exit.inBlock, ↓reduceIte, Nat.reduceEqDiff]))
  ((try simp only [Exit.inBlock, Exit.then]); refine Sy.st_ret2 T F rfl (by repeat (first | exact Sy.ResV.nil | apply Sy.ResV.tmp rfl | apply Sy.ResV.row rfl rfl rfl (by repeat (first | exact Sy.Take.here | apply Sy.Take.there)) (by rfl) | apply Sy.ResV.one rfl rfl rfl (by repeat (first | exact Sy.Take.here | apply Sy.Take.there)) (by rfl))) ?_)
  have hfin : nextV r.out target = .tuple #[.agg (cellL zeroC).toArray, .bool false] := by unfold nextV; rw [hno]
  rw [hfin]
  exact F.retV _
set_option maxRecDepth 20000 in
set_option maxHeartbeats 1000000 in
theorem nextR_any (w0 : World) (r : RegD) (p : RegA) (h : RegAt w0 r p) (target : Int) (hs : ∀ i j (hi : i < r.out.length) (hj : j < r.out.length), i < j → r.out[i].n < r.out[j].n) :
    Calls Try.prog 36 #[.agg (regCs r p).toArray, .int .u8 target] w0 (RetV w0 (nextV r.out target)) := by
  have F := Sy.Mem.start (Sub.refl w0)
  obtain ⟨va, vc, da, dc, oa, oc, ma, mc⟩ := p
  have hm := h.out
  have hl := hm.1
  simp only at hm
  refine Sy.enter Try.func36 rfl Try.ntmps36 rfl ?_; intro ac T; simp only [Sy.enum, Nat.zero_add, Nat.reduceAdd] at T
  repeat (first
    | (((with_reducible refine Sy.is_load ?_); (refine Sy.st_loadOne T F (h := ?_)); clear T; intro ac T))
    | (((with_reducible refine Sy.is_store ?_); (refine Sy.st_storeAll T F (h := ?_)); clear T F; intro ac w T F))
    | (((with_reducible refine Sy.is_box ?_); (refine Sy.st_boxAgg T F (h := ?_)); clear T F; intro ac g w T F))
    | (((with_reducible refine Sy.is_alloc ?_); refine Sy.st_alloc T F (h := ?_); clear T F; intro ac g w T F))
    | (((with_reducible refine Sy.is_build ?_); refine Sy.st_build T (h := ?_); (conv => whnf); (repeat (refine ⟨by first | exact rfl | exact ⟨rfl, rfl⟩, ?_⟩; (conv => whnf))); clear T; intro ac T))
    | (((with_reducible refine Sy.is_op ?_); refine Sy.st_pure T (h := ?_); clear T; intro ac T))
    | (with_reducible refine wpList_nil ?_)
    | (with_reducible refine wp_region_lit ?_)
    | (with_reducible refine wp_block ?_)
    | ((with_reducible refine wp_seq_k ?_); intro _ _)
    | (go_at_K; go_step)
    | (simp only [Exit.then, Exit.inBlock, ↓reduceIte, Nat.reduceEqDiff]))
  refine Sy.loop3 (fun g2 g4 g6 n ac w' => ∃ (k : Nat) (c : CellD) (fb : Bool), n = r.out.length - k ∧ k ≤ r.out.length ∧ (r.out.take k).find? (toT target) = (if fb then some c else none) ∧ (fb = false → c = zeroC) ∧ (fb = true → ∃ j, ∃ hj : j < r.out.length, j < k ∧ r.out[j] = c) ∧
    Sy.Tm ac 47 [(1, .int .u8 target), (2, .pointer (some ⟨g2, 0, none⟩)), (4, .pointer (some ⟨g4, 0, none⟩)), (5, .bool false), (6, .pointer (some ⟨g6, 0, none⟩)), (7, .bool fb), (12, .int .i64 (r.out.length : Int)), (13, .int .i64 (k : Int))] ∧
    Sy.Mem ⟨w0, [], w0⟩ w0 [⟨g6, cellL c, 47⟩, ⟨g4, cellL zeroC, 47⟩, ⟨g2, regCs r ⟨va, vc, da, dc, oa, oc, ma, mc⟩, 51⟩] w') r.out.length (by exact ⟨0, zeroC, false, rfl, Nat.zero_le _, rfl, fun _ => rfl, (fun h => by cases h), (T.part (by repeat (first | exact Sy.Part.nil | apply Sy.Part.cons rfl))), (F.sel (by repeat (first | exact Sy.Sel.nil | apply Sy.Sel.cons (by repeat (first | exact Sy.Take.here | apply Sy.Take.there)))))⟩) ?_
  clear T F
  intro n ac w hI J K hJ hK
  obtain ⟨k, c, fb, rfl, hk, hfd, hz, hj, T, F⟩ := hI
  by_cases hlt : k < r.out.length
  · have v1 : decide ((k : Int) < (r.out.length : Int)) = true := decide_eq_true (by omega)
    have v2 := i64_up hlt hl
    obtain ⟨b, o, cs, hsa, hcl, hat, rfl, hb⟩ := rows_get hm hlt
    subst hsa
    have hup := find_up (p := toT target) hlt
    rw [hfd] at hup
    cases t1 : ((r.out[k].target : Int) == target)
    · have hp : toT target r.out[k] = false := t1
      rw [hp] at hup
      repeat (first
    | (((with_reducible refine Sy.is_op ?_); refine Sy.st_pure T (h := ?_); clear T; intro ac T))
    | ((with_reducible refine Sy.is_cond ?_); (first
    | refine Sy.st_true T (h := ?_)
    | refine Sy.st_false T (h := ?_)))
    | (with_reducible refine wpList_nil ?_)
    | (with_reducible refine wp_region_lit ?_)
    | (with_reducible refine wp_block ?_)
    | (with_reducible refine wp_skip ?_)
    | ((with_reducible refine wp_seq_k ?_); intro _ _)
    | (go_at_K; go_step)
    | (simp only [Exit.then, Exit.inBlock, ↓reduceIte, Nat.reduceEqDiff])
    | ((with_reducible refine Sy.is_drawn (id := 6) ?_); refine Sy.sx_region F [] (.t 0 (.t 1 (.t 2 (.t 3 (.t 4 (.t 5 (.t 6 (.t 7 (.t 8 (.t 9 (.t 10 (.t 11 (.t 12 (.t 13 (.t 14 (.t 15 (.t 16 (.t 17 (.t 18 (.t 19 (.t 20 (.t 21 (.t 22 .e))))))))))))))))))))))) [] (by kernel_rfl) ?_; (clear F; intro w F))
    | ((refine Sy.sx_plain (h := ?_)); (first
    | ((with_reducible refine Sy.ux_load ?_); (first
    | refine Sy.sx_val (Sy.rx_loadOne T F) T rfl ?_
    | refine Sy.sx_val (Sy.rx_oldOne T F) T rfl ?_); clear T; intro ac T)
    | (refine Sy.sx_pure T (h := ?_); clear T; intro ac T)); show Sy.wpUx _ _ _ _ _ _ _ _ _)
    | ((refine Sy.sx_unguard (T := T) (h := ?_)); clear T; intro ac T)
    | (with_reducible refine Sy.sx_nil ?_)
    | (with_reducible refine Sy.sx_end ?_))
      exact Sy.handed hJ (k := r.out.length - (k + 1)) (by omega) ⟨k + 1, c, fb, rfl, by omega, by rw [hup]; cases fb <;> rfl, hz, fun hf => (let ⟨j, h1, h2, h3⟩ := hj hf; ⟨j, h1, Nat.lt_succ_of_lt h2, h3⟩), (T.part (by repeat (first | exact Sy.Part.nil | apply Sy.Part.cons rfl))), (F.sel (by repeat (first | exact Sy.Sel.nil | apply Sy.Sel.cons (by repeat (first | exact Sy.Take.here | apply Sy.Take.there)))))⟩
    · have hp : toT target r.out[k] = true := t1
      rw [hp, if_pos rfl] at hup
      cases fb
      · repeat (first
    | (((with_reducible refine Sy.is_load ?_); (first
    | refine Sy.st_loadOne T F (h := ?_)
    | refine Sy.st_oldAgg T F (h := ?_)); clear T; intro ac T))
    | (((with_reducible refine Sy.is_store ?_); (refine Sy.st_storeAll T F (h := ?_)); clear T F; intro ac w T F))
    | (((with_reducible refine Sy.is_op ?_); refine Sy.st_pure T (h := ?_); clear T; intro ac T))
    | ((with_reducible refine Sy.is_cond ?_); (refine Sy.st_true T (h := ?_)))
    | (with_reducible refine wpList_nil ?_)
    | (with_reducible refine wp_region_lit ?_)
    | (with_reducible refine wp_block ?_)
    | (with_reducible refine wp_skip ?_)
    | ((with_reducible refine wp_seq_k ?_); intro _ _)
    | (go_at_K; go_step)
    | (simp only [Exit.then, Exit.inBlock, ↓reduceIte, Nat.reduceEqDiff])
    | ((with_reducible refine Sy.is_drawn (id := 6) ?_); refine Sy.sx_region F [] (.t 0 (.t 1 (.t 2 (.t 3 (.t 4 (.t 5 (.t 6 (.t 7 (.t 8 (.t 9 (.t 10 (.t 11 (.t 12 (.t 13 (.t 14 (.t 15 (.t 16 (.t 17 (.t 18 (.t 19 (.t 20 (.t 21 (.t 22 .e))))))))))))))))))))))) [] (by kernel_rfl) ?_; (clear F; intro w F))
    | ((first
    | refine Sy.sx_plain (h := ?_)
    | refine Sy.sx_guard (T := T) (h := ?_)); (first
    | ((with_reducible refine Sy.ux_load ?_); (first
    | refine Sy.sx_val (Sy.rx_loadOne T F) T rfl ?_
    | refine Sy.sx_val (Sy.rx_oldOne T F) T rfl ?_); clear T; intro ac T)
    | (refine Sy.sx_pure T (h := ?_); clear T; intro ac T)); show Sy.wpUx _ _ _ _ _ _ _ _ _)
    | ((refine Sy.sx_unguard (T := T) (h := ?_)); clear T; intro ac T)
    | (with_reducible refine Sy.sx_nil ?_)
    | (with_reducible refine Sy.sx_end ?_))
        exact Sy.handed hJ (k := r.out.length - (k + 1)) (by omega) ⟨k + 1, r.out[k], true, rfl, by omega, hup, (fun h => by cases h), fun _ => ⟨k, hlt, Nat.lt_succ_self k, rfl⟩, (T.part (by repeat (first | exact Sy.Part.nil | apply Sy.Part.cons rfl))), (F.sel (by repeat (first | exact Sy.Sel.nil | apply Sy.Sel.cons (by repeat (first | exact Sy.Take.here | apply Sy.Take.there)))))⟩
      · obtain ⟨j, h1, h2, h3⟩ := hj rfl
        have t2 : decide ((r.out[k].n : Int) < (c.n : Int)) = false := decide_eq_false (by have := hs j k h1 hlt h2; rw [h3] at this; omega)
        repeat (first
    | (((with_reducible refine Sy.is_op ?_); refine Sy.st_pure T (h := ?_); clear T; intro ac T))
    | ((with_reducible refine Sy.is_cond ?_); (first
    | refine Sy.st_true T (h := ?_)
    | refine Sy.st_false T (h := ?_)))
    | (with_reducible refine wpList_nil ?_)
    | (with_reducible refine wp_region_lit ?_)
    | (with_reducible refine wp_block ?_)
    | (with_reducible refine wp_skip ?_)
    | ((with_reducible refine wp_seq_k ?_); intro _ _)
    | (go_at_K; go_step)
    | (simp only [Exit.then, Exit.inBlock, ↓reduceIte, Nat.reduceEqDiff])
    | ((with_reducible refine Sy.is_drawn (id := 6) ?_); refine Sy.sx_region F [] (.t 0 (.t 1 (.t 2 (.t 3 (.t 4 (.t 5 (.t 6 (.t 7 (.t 8 (.t 9 (.t 10 (.t 11 (.t 12 (.t 13 (.t 14 (.t 15 (.t 16 (.t 17 (.t 18 (.t 19 (.t 20 (.t 21 (.t 22 .e))))))))))))))))))))))) [] (by kernel_rfl) ?_; (clear F; intro w F))
    | ((first
    | refine Sy.sx_plain (h := ?_)
    | refine Sy.sx_guard (T := T) (h := ?_)); (first
    | ((with_reducible refine Sy.ux_load ?_); (first
    | refine Sy.sx_val (Sy.rx_loadOne T F) T rfl ?_
    | refine Sy.sx_val (Sy.rx_oldOne T F) T rfl ?_); clear T; intro ac T)
    | (refine Sy.sx_pure T (h := ?_); clear T; intro ac T)); show Sy.wpUx _ _ _ _ _ _ _ _ _)
    | (with_reducible refine Sy.sx_nil ?_)
    | (with_reducible refine Sy.sx_end ?_))
        exact Sy.handed hJ (k := r.out.length - (k + 1)) (by omega) ⟨k + 1, c, true, rfl, by omega, hup, hz, fun _ => ⟨j, h1, Nat.lt_succ_of_lt h2, h3⟩, (T.part (by repeat (first | exact Sy.Part.nil | apply Sy.Part.cons rfl))), (F.sel (by repeat (first | exact Sy.Sel.nil | apply Sy.Sel.cons (by repeat (first | exact Sy.Take.here | apply Sy.Take.there)))))⟩
  obtain rfl : k = r.out.length := by omega
  have v1 : decide ((r.out.length : Int) < (r.out.length : Int)) = false := decide_eq_false (by omega)
  rw [List.take_length] at hfd
  have hfin : nextV r.out target = .tuple #[.agg (cellL c).toArray, .bool fb] := by
    unfold nextV
    rw [hfd]
    cases fb
    · rw [hz rfl]; rfl
    · rfl
  repeat (first
    | (((with_reducible refine Sy.is_load ?_); (refine Sy.st_loadAll T F (h := ?_)); clear T; intro ac T))
    | (((with_reducible refine Sy.is_store ?_); (refine Sy.st_storeAll T F (h := ?_)); clear T F; intro ac w T F))
    | (((with_reducible refine Sy.is_op ?_); refine Sy.st_pure T (h := ?_); clear T; intro ac T))
    | ((with_reducible refine Sy.is_cond ?_); (refine Sy.st_false T (h := ?_)))
    | (with_reducible refine wpList_nil ?_)
    | (with_reducible refine wp_region_lit ?_)
    | (with_reducible refine wp_exit ?_)
    | (with_reducible refine wp_ret ?_)
    | ((with_reducible refine wp_seq_k ?_); intro _ _)
    | (go_at_K; go_step)
    | (simp only [Exit.then, Exit.inBlock, ↓reduceIte, Nat.reduceEqDiff]))
  ((try simp only [Exit.inBlock, Exit.then]); refine Sy.st_ret2 T F rfl (by repeat (first | exact Sy.ResV.nil | apply Sy.ResV.tmp rfl | apply Sy.ResV.row rfl rfl rfl (by repeat (first | exact Sy.Take.here | apply Sy.Take.there)) (by rfl) | apply Sy.ResV.one rfl rfl rfl (by repeat (first | exact Sy.Take.here | apply Sy.Take.there)) (by rfl))) ?_)
  rw [hfin]
  exact F.retV _
end En
end Go.Proofs.Ytdpmfjbhadapiaa
namespace Go.Proofs.Ytdpmfjbhadapiaa
open Go.RowKit
set_option linter.unusedVariables false
set_option linter.unusedSimpArgs false
namespace En
open Sy (RetV RetM Sub)
open Rg (eqT eqF U8 U64 I64 RegD RegA RegAt regCs CellD OpD OpOk opCs greatS May06 ListsP)
theorem cellEq (x : CellD) : Sy.EqAgg Try.prog .eql 47 (cellL x) (cellL x) true ∧ Sy.EqAgg Try.prog .neq 47 (cellL x) (cellL x) false := by
  refine Sy.eqAgg_refl Try.underlying47 (by kernel_rfl) ?_
  intro f hf
  simp at hf
  rcases hf with rfl | rfl | rfl | rfl <;> exact ⟨_, _, rfl⟩
theorem nextV_ex (l : List CellD) (target : Int) : ∃ (c : CellD) (e : Bool), nextV l target = .tuple #[.agg (cellL c).toArray, .bool e] := by
  unfold nextV
  cases l.find? (toT target) with
  | none => exact ⟨zeroC, false, rfl⟩
  | some c => exact ⟨c, true, rfl⟩
theorem good_up {last : Nat} {l : List CellD} (h : Rg.goodC last l) : ∀ i j (hi : i < l.length) (hj : j < l.length), i < j → l[i].n < l[j].n := by
  intro i j hi hj hij
  obtain ⟨d, rfl⟩ : ∃ d, j = i + 1 + d := ⟨j - i - 1, by omega⟩
  clear hij
  induction d with
  | zero => exact (h (i + 1) hj).2.2.2.2.2 (by omega)
  | succ d ih =>
    have h1 := ih (by omega)
    have h2 := (h (i + 1 + (d + 1)) hj).2.2.2.2.2 (by omega)
    have e : i + 1 + (d + 1) - 1 = i + 1 + d := by omega
    simp only [e] at h2
    omega
set_option maxRecDepth 20000 in
set_option maxHeartbeats 2000000 in
theorem engineMayW (w0 : World) (o : OpD) (ho : OpOk o) (r : RegD) (p : RegA) (h : RegAt w0 r p) (target inc cell : Int) : Calls Try.prog 13 #[.agg (opCs o).toArray, .agg (regCs r p).toArray, .int .u8 target, .int .u64 inc, .int .u64 cell] w0 (fun e w' => e = .returned (.bool true) ∧ Below w0.heap.size w0 w') := by
  have hB := Try.underlying4
  suffices H : Calls Try.prog 13 #[.agg (opCs o).toArray, .agg (regCs r p).toArray, .int .u8 target, .int .u64 inc, .int .u64 cell] w0 (RetV w0 (.bool true)) from H
  have F := Sy.Mem.start (Sub.refl w0)
  refine Sy.enter Try.func13 rfl Try.ntmps13 rfl ?_; intro ac T; simp only [Sy.enum, Nat.zero_add, Nat.reduceAdd] at T
  repeat (first
    | (((with_reducible refine Sy.is_load ?_); (refine Sy.st_loadAll T F (h := ?_)); clear T; intro ac T))
    | (((with_reducible refine Sy.is_box ?_); (refine Sy.st_boxAgg T F (h := ?_)); clear T F; intro ac g w T F))
    | (((with_reducible refine Sy.is_op ?_); refine Sy.st_pure T (h := ?_); clear T; intro ac T))
    | (with_reducible refine wpList_nil ?_)
    | (with_reducible refine wp_region_lit ?_)
    | ((with_reducible refine wp_seq_k ?_); intro _ _)
    | (go_at_K; go_step)
    | (simp only [Exit.then, Exit.inBlock, ↓reduceIte, Nat.reduceEqDiff]))
  cases hg : greatS r with
  | true =>
    have G : Calls Try.prog 30 #[.agg (regCs r p).toArray] w (RetV w (.bool true)) := hg ▸ Rg.great_any w r p (h.sub F.sub)
    refine Sy.st_callV0 T F (hc := G) (h := ?_); (clear T F; intro ac w T F)
    repeat (first
    | ((with_reducible refine Sy.is_cond ?_); (refine Sy.st_true T (h := ?_)))
    | (with_reducible refine wpList_nil ?_)
    | (with_reducible refine wp_region_lit ?_)
    | ((with_reducible refine wp_seq_k ?_); intro _ _)
    | (go_at_K; go_step)
    | (simp only [Exit.then, Exit.inBlock, ↓reduceIte, Nat.reduceEqDiff]))
    refine Sy.st_callV0 T F (hc := awake_any w) (h := ?_); (clear T F; intro ac w T F)
    repeat (first
    | (((with_reducible refine Sy.is_op ?_); refine Sy.st_pure T (h := ?_); clear T; intro ac T))
    | (with_reducible refine wpList_nil ?_)
    | (with_reducible refine wp_ret ?_)
    | (go_at_K; go_step)
    | (simp only [Exit.then, Exit.inBlock, ↓reduceIte, Nat.reduceEqDiff]))
    ((try simp only [Exit.inBlock, Exit.then]); refine Sy.st_ret1 T F rfl (by repeat (first | exact Sy.ResV.nil | apply Sy.ResV.tmp rfl | apply Sy.ResV.row rfl rfl rfl (by repeat (first | exact Sy.Take.here | apply Sy.Take.there)) (by rfl) | apply Sy.ResV.one rfl rfl rfl (by repeat (first | exact Sy.Take.here | apply Sy.Take.there)) (by rfl))) ?_)
    exact F.retV _
  | false =>
    have hs := Rg.short_of hg
    have G : Calls Try.prog 30 #[.agg (regCs r p).toArray] w (RetV w (.bool false)) := hg ▸ Rg.great_any w r p (h.sub F.sub)
    refine Sy.st_callV0 T F (hc := G) (h := ?_); (clear T F; intro ac w T F)
    clear G
    repeat (first
    | ((with_reducible refine Sy.is_cond ?_); (refine Sy.st_false T (h := ?_)))
    | (with_reducible refine wpList_nil ?_)
    | (with_reducible refine wp_skip ?_)
    | ((with_reducible refine wp_seq_k ?_); intro _ _)
    | (go_at_K; go_step)
    | (simp only [Exit.then, Exit.inBlock, ↓reduceIte, Nat.reduceEqDiff])
    | ((with_reducible refine Sy.is_drawn (id := 3) ?_); refine Sy.sx_region F [] (.t 0 (.t 2 (.h 1 (.h 3 (.t 4 (.t 5 (.t 6 (.t 7 (.t 8 (.t 9 (.t 11 (.t 12 (.t 13 (.t 14 (.h 10 (.h 15 (.t 16 (.t 17 .e)))))))))))))))))) [] (by kernel_rfl) ?_; (clear F; intro w F))
    | ((refine Sy.sx_plain (h := ?_)); (((with_reducible refine Sy.ux_load ?_); (refine Sy.sx_val (Sy.rx_loadAll T F) T rfl ?_); clear T; intro ac T)); show Sy.wpUx _ _ _ _ _ _ _ _ _))
    have e1 : (decide (MayO o) == decide (MayO o)) = true := beq_self_eq_true _
    have e2 : (settledS r target inc cell == settledS r target inc cell) = true := beq_self_eq_true _
    have G := opMay_any w o; refine Sy.sx_callV0 rfl T F (hc := G) (h := ?_); (clear T F G; intro ac w T F)
    skip
    have G := opMayR_any w o; refine Sy.sx_callV0 rfl T F (hc := G) (h := ?_); (clear T F G; intro ac w T F)
    generalize decide (MayO o) = b1 at *
    repeat (((first
    | refine Sy.sx_plain (h := ?_)
    | refine Sy.sx_guard (T := T) (h := ?_)); (first
    | ((with_reducible refine Sy.ux_load ?_); (refine Sy.sx_val (Sy.rx_loadAll T F) T rfl ?_); clear T; intro ac T)
    | (refine Sy.sx_pure T (h := ?_); clear T; intro ac T)); show Sy.wpUx _ _ _ _ _ _ _ _ _))
    have G := settled_any w r p (h.sub F.sub) target inc cell; refine Sy.sx_callGV rfl T F (hc := G) (h := ?_); (clear T F G; intro ac w T F)
    skip
    have G := settledR_any w r p (h.sub F.sub) target inc cell; refine Sy.sx_callGV rfl T F (hc := G) (h := ?_); (clear T F G; intro ac w T F)
    generalize settledS r target inc cell = b2 at *
    repeat (first
    | (((with_reducible refine Sy.is_load ?_); (refine Sy.st_loadAll T F (h := ?_)); clear T; intro ac T))
    | ((with_reducible refine Sy.is_cond ?_); (refine Sy.st_false T (h := ?_)))
    | (with_reducible refine wp_region_lit ?_)
    | (with_reducible refine wp_skip ?_)
    | ((with_reducible refine wp_seq_k ?_); intro _ _)
    | (go_at_K; go_step)
    | (simp only [Exit.then, Exit.inBlock, ↓reduceIte, Nat.reduceEqDiff])
    | ((first
    | refine Sy.sx_plain (h := ?_)
    | refine Sy.sx_guard (T := T) (h := ?_)); ((refine Sy.sx_pure T (h := ?_); clear T; intro ac T)); show Sy.wpUx _ _ _ _ _ _ _ _ _)
    | (with_reducible refine Sy.sx_nil ?_)
    | (with_reducible refine Sy.sx_end ?_))
    by_cases hm : May06 r
    · have G := Rg.may06_any w r p (h.sub F.sub) hs true ⟨fun _ => hm, fun _ => rfl⟩; refine Sy.st_callV0 T F (hc := G) (h := ?_); (clear T F G; intro ac w T F)
      repeat (first
    | (((with_reducible refine Sy.is_load ?_); (refine Sy.st_loadAll T F (h := ?_)); clear T; intro ac T))
    | (((with_reducible refine Sy.is_op ?_); refine Sy.st_pure T (h := ?_); clear T; intro ac T))
    | ((with_reducible refine Sy.is_cond ?_); (refine Sy.st_false T (h := ?_)))
    | (with_reducible refine wpList_nil ?_)
    | (with_reducible refine wp_region_lit ?_)
    | (with_reducible refine wp_skip ?_)
    | ((with_reducible refine wp_seq_k ?_); intro _ _)
    | (go_at_K; go_step)
    | (simp only [Exit.then, Exit.inBlock, ↓reduceIte, Nat.reduceEqDiff]))
      have hup : ∀ i j (hi : i < r.out.length) (hj : j < r.out.length), i < j → r.out[i].n < r.out[j].n := by
        unfold May06 at hm
        split at hm
        · intro i j hi
          omega
        · exact good_up hm.2.2.2.2.2.2.2.2.2.2.1
      obtain ⟨c, e, hN⟩ := nextV_ex r.out target
      have G := next_any w r p (h.sub F.sub) target
      rw [hN] at G
      refine Sy.st_callV0 T F (hc := G) (h := ?_); (clear T F; intro ac w T F)
      clear G
      repeat (first
    | (((with_reducible refine Sy.is_load ?_); (refine Sy.st_loadAll T F (h := ?_)); clear T; intro ac T))
    | (((with_reducible refine Sy.is_store ?_); (refine Sy.st_storeAll T F (h := ?_)); clear T F; intro ac w T F))
    | (((with_reducible refine Sy.is_alloc ?_); refine Sy.st_alloc T F (h := ?_); clear T F; intro ac g w T F))
    | (((with_reducible refine Sy.is_op ?_); refine Sy.st_pure T (h := ?_); clear T; intro ac T))
    | (with_reducible refine wpList_nil ?_)
    | (with_reducible refine wp_region_lit ?_)
    | ((with_reducible refine wp_seq_k ?_); intro _ _)
    | (go_at_K; go_step)
    | (simp only [Exit.then, Exit.inBlock, ↓reduceIte, Nat.reduceEqDiff]))
      have G := nextR_any w r p (h.sub F.sub) target hup
      rw [hN] at G
      refine Sy.st_callV0 T F (hc := G) (h := ?_); (clear T F; intro ac w T F)
      clear G
      have e3 := (cellEq c).1
      have e4 : (e == e) = true := beq_self_eq_true _
      repeat (first
    | (((with_reducible refine Sy.is_guard ?_); (refine Sy.st_guard T (h := ?_))))
    | (((with_reducible refine Sy.is_load ?_); (refine Sy.st_loadAll T F (h := ?_)); clear T; intro ac T))
    | (((with_reducible refine Sy.is_store ?_); (refine Sy.st_storeAll T F (h := ?_)); clear T F; intro ac w T F))
    | (((with_reducible refine Sy.is_alloc ?_); refine Sy.st_alloc T F (h := ?_); clear T F; intro ac g w T F))
    | (((with_reducible refine Sy.is_op ?_); refine Sy.st_pure T (h := ?_); clear T; intro ac T))
    | (with_reducible refine wpList_nil ?_)
    | (with_reducible refine wp_region_lit ?_)
    | ((with_reducible refine wp_seq_k ?_); intro _ _)
    | (go_at_K; go_step)
    | (simp only [Exit.then, Exit.inBlock, ↓reduceIte, Nat.reduceEqDiff]))
      refine Sy.st_callV0 T F (hc := awake_any w) (h := ?_); (clear T F; intro ac w T F)
      repeat (first
    | (((with_reducible refine Sy.is_op ?_); refine Sy.st_pure T (h := ?_); clear T; intro ac T))
    | (with_reducible refine wpList_nil ?_)
    | (with_reducible refine wp_ret ?_)
    | (go_at_K; go_step)
    | (simp only [Exit.then, Exit.inBlock, ↓reduceIte, Nat.reduceEqDiff]))
      ((try simp only [Exit.inBlock, Exit.then]); refine Sy.st_ret1 T F rfl (by repeat (first | exact Sy.ResV.nil | apply Sy.ResV.tmp rfl | apply Sy.ResV.row rfl rfl rfl (by repeat (first | exact Sy.Take.here | apply Sy.Take.there)) (by rfl) | apply Sy.ResV.one rfl rfl rfl (by repeat (first | exact Sy.Take.here | apply Sy.Take.there)) (by rfl))) ?_)
      exact F.retV _
    · have G := Rg.may06_any w r p (h.sub F.sub) hs false ⟨fun k => (by cases k), fun k => absurd k hm⟩; refine Sy.st_callV0 T F (hc := G) (h := ?_); (clear T F G; intro ac w T F)
      repeat (first
    | (((with_reducible refine Sy.is_op ?_); refine Sy.st_pure T (h := ?_); clear T; intro ac T))
    | ((with_reducible refine Sy.is_cond ?_); (refine Sy.st_true T (h := ?_)))
    | (with_reducible refine wpList_nil ?_)
    | (with_reducible refine wp_region_lit ?_)
    | ((with_reducible refine wp_seq_k ?_); intro _ _)
    | (go_at_K; go_step)
    | (simp only [Exit.then, Exit.inBlock, ↓reduceIte, Nat.reduceEqDiff]))
      refine Sy.st_callV0 T F (hc := awake_any w) (h := ?_); (clear T F; intro ac w T F)
      repeat (first
    | (((with_reducible refine Sy.is_op ?_); refine Sy.st_pure T (h := ?_); clear T; intro ac T))
    | (with_reducible refine wpList_nil ?_)
    | (with_reducible refine wp_ret ?_)
    | (go_at_K; go_step)
    | (simp only [Exit.then, Exit.inBlock, ↓reduceIte, Nat.reduceEqDiff]))
      ((try simp only [Exit.inBlock, Exit.then]); refine Sy.st_ret1 T F rfl (by repeat (first | exact Sy.ResV.nil | apply Sy.ResV.tmp rfl | apply Sy.ResV.row rfl rfl rfl (by repeat (first | exact Sy.Take.here | apply Sy.Take.there)) (by rfl) | apply Sy.ResV.one rfl rfl rfl (by repeat (first | exact Sy.Take.here | apply Sy.Take.there)) (by rfl))) ?_)
      exact F.retV _
end En
theorem engineMayL (w0 : World) (o : Rg.OpD) (ho : Rg.OpOk o) (r : Rg.RegD) (p : Rg.RegA) (h : Rg.RegAt w0 r p) (y : UInt8) (inc : Int) {P1 : Prop} (_ : P1) (cell : Int) {P2 : Prop} (_ : P2) : Calls Try.prog 13 #[.agg (Rg.opCs o).toArray, .agg (Rg.regCs r p).toArray, .int .u8 (y.toNat : Int), .int .u64 inc, .int .u64 cell] w0 (fun e w' => e = .returned (.bool true) ∧ Below w0.heap.size w0 w') := En.engineMayW w0 o ho r p h _ _ _
end Go.Proofs.Ytdpmfjbhadapiaa
