/- The walks of Settled, the code's and the document's, and of the code's Next. Conditions: the register can be read. -/
import Derived.Test.YtdpmfjbhadapiaaIdx
import Derived.Test.YtdpmfjbhadapiaaRegD
namespace Go.Proofs.Ytdpmfjbhadapiaa
open Go.RowKit
set_option linter.unusedVariables false
set_option linter.unusedSimpArgs false
theorem Sy.cell_ownE {w : World} {g : Nat} {cs : List Value} {t : TypeId} (h : w.heap[g]? = some (.cells cs.toArray t (0, 0))) (i : Nat) {v : Value} (hv : cs[i]? = some v) : w.cell? ⟨g, i, none⟩ = some v := by simp [World.cell?, h, hv]
namespace En
open Sy (RetV RetM Sub)
open Rg (and2 or2 retBb not_t not_f eqT eqF i64_up ClosB any_up any_hit MarkD MarkR CellD CellR RegD RegA RegAt regCs OpD opCs)
def stl (source inc cell : Int) (m : MarkD) : Bool := ((m.source : Int) == source) && (decide ((m.inc : Int) > inc) || (((m.inc : Int) == inc) && decide ((m.cell : Int) ≥ cell)))
theorem stl_cases (source inc cell : Int) (m : MarkD) :
    ((m.source : Int) == source) = false ∧ stl source inc cell m = false ∨
    ((m.source : Int) == source) = true ∧ decide ((m.inc : Int) > inc) = true ∧ stl source inc cell m = true ∨
    ((m.source : Int) == source) = true ∧ decide ((m.inc : Int) > inc) = false ∧ ((m.inc : Int) == inc) = false ∧ stl source inc cell m = false ∨
    ((m.source : Int) == source) = true ∧ decide ((m.inc : Int) > inc) = false ∧ ((m.inc : Int) == inc) = true ∧ ∃ b, decide ((m.cell : Int) ≥ cell) = b ∧ stl source inc cell m = b := by
  unfold stl
  cases ((m.source : Int) == source) <;> cases decide ((m.inc : Int) > inc) <;> cases ((m.inc : Int) == inc) <;> simp
set_option maxRecDepth 20000 in
set_option maxHeartbeats 1000000 in
theorem settled1_any (w : World) (m : MarkD) (source inc cell : Int) (g1 g2 g3 : Nat) (h1 : w.cell? ⟨g1, 0, none⟩ = some (.int .u8 source)) (h2 : w.cell? ⟨g2, 0, none⟩ = some (.int .u64 inc)) (h3 : w.cell? ⟨g3, 0, none⟩ = some (.int .u64 cell)) :
    Calls Try.prog 54 #[.agg #[.int .u8 (m.source : Int), .int .u64 (m.inc : Int), .int .u64 (m.cell : Int)], .pointer (some ⟨g1, 0, none⟩), .pointer (some ⟨g2, 0, none⟩), .pointer (some ⟨g3, 0, none⟩)] w (RetV w (.bool (stl source inc cell m))) := by
  have F := Sy.Mem.start (Sub.refl w)
  rcases stl_cases source inc cell m with ⟨t1, hb⟩ | ⟨t1, t2, hb⟩ | ⟨t1, t2, t3, hb⟩ | ⟨t1, t2, t3, b, t4, hb⟩
  all_goals
    refine Sy.enter Try.func54 rfl Try.ntmps54 rfl ?_; intro ac T; simp only [Sy.enum, Nat.zero_add, Nat.reduceAdd] at T
    repeat (first
    | (((with_reducible refine Sy.is_guard ?_); (first
    | refine Sy.st_guard T (h := ?_)
    | (refine Sy.st_unguard T (h := ?_); clear T; intro ac T))))
    | (((with_reducible refine Sy.is_load ?_); (first
    | refine Sy.st_loadOne T F (h := ?_)
    | refine Sy.st_oldOne T F (h := ?_)); clear T; intro ac T))
    | (((with_reducible refine Sy.is_box ?_); (refine Sy.st_boxAgg T F (h := ?_)); clear T F; intro ac g w T F))
    | (((with_reducible refine Sy.is_op ?_); refine Sy.st_pure T (h := ?_); clear T; intro ac T))
    | (with_reducible refine wpList_nil ?_)
    | (with_reducible refine wp_region_lit ?_)
    | (with_reducible refine wp_ret ?_)
    | ((with_reducible refine wp_seq_k ?_); intro _ _)
    | (go_at_K; go_step)
    | (simp only [Exit.then, Exit.inBlock, ↓reduceIte, Nat.reduceEqDiff]))
    ((try simp only [Exit.inBlock, Exit.then]); refine Sy.st_ret1 T F rfl (by repeat (first | exact Sy.ResV.nil | apply Sy.ResV.tmp rfl | apply Sy.ResV.row rfl rfl rfl (by repeat (first | exact Sy.Take.here | apply Sy.Take.there)) (by rfl) | apply Sy.ResV.one rfl rfl rfl (by repeat (first | exact Sy.Take.here | apply Sy.Take.there)) (by rfl))) ?_)
    exact retBb F hb
theorem clos_stl {w : World} {l : List MarkD} {source inc cell : Int} {g1 g2 g3 : Nat} (h1 : w.cell? ⟨g1, 0, none⟩ = some (.int .u8 source)) (h2 : w.cell? ⟨g2, 0, none⟩ = some (.int .u64 inc)) (h3 : w.cell? ⟨g3, 0, none⟩ = some (.int .u64 cell)) :
    ClosB MarkR w 54 [.pointer (some ⟨g1, 0, none⟩), .pointer (some ⟨g2, 0, none⟩), .pointer (some ⟨g3, 0, none⟩)] l (stl source inc cell) := fun w' m s1 s2 d _ cs hr => by
  obtain ⟨rfl, _⟩ := hr
  have s := s1.trans s2
  exact settled1_any w' d source inc cell g1 g2 g3 (s _ _ h1) (s _ _ h2) (s _ _ h3)
def settledS (r : RegD) (source inc cell : Int) : Bool := r.marks.any (stl source inc cell)
set_option maxRecDepth 20000 in
set_option maxHeartbeats 1000000 in
theorem settled_any (w0 : World) (r : RegD) (p : RegA) (h : RegAt w0 r p) (source inc cell : Int) :
    Calls Try.prog 29 #[.agg (regCs r p).toArray, .int .u8 source, .int .u64 inc, .int .u64 cell] w0 (RetV w0 (.bool (settledS r source inc cell))) := by
  have F := Sy.Mem.start (Sub.refl w0)
  refine Sy.enter Try.func29 rfl Try.ntmps29 rfl ?_; intro ac T; simp only [Sy.enum, Nat.zero_add, Nat.reduceAdd] at T
  repeat (first
    | (((with_reducible refine Sy.is_load ?_); (refine Sy.st_loadOne T F (h := ?_)); clear T; intro ac T))
    | (((with_reducible refine Sy.is_box ?_); (first
    | refine Sy.st_boxAgg T F (h := ?_)
    | refine Sy.st_boxOne T F (h := ?_)); clear T F; intro ac g w T F))
    | (((with_reducible refine Sy.is_op ?_); refine Sy.st_pure T (h := ?_); clear T; intro ac T))
    | (with_reducible refine wpList_nil ?_)
    | (with_reducible refine wp_region_lit ?_)
    | ((with_reducible refine wp_seq_k ?_); intro _ _)
    | (go_at_K; go_step)
    | (simp only [Exit.then, Exit.inBlock, ↓reduceIte, Nat.reduceEqDiff]))
  have c3 := Sy.cell_ownE (F.get Sy.Take.here) 0 rfl
  have c2 := Sy.cell_ownE (F.get (Sy.Take.there Sy.Take.here)) 0 rfl
  have c1 := Sy.cell_ownE (F.get (Sy.Take.there (Sy.Take.there Sy.Take.here))) 0 rfl
  have G := Rg.containsMark w (h.sub F.sub).marks rfl (clos_stl c1 c2 c3) (cap := p.mc)
  refine Sy.st_callV0 T F (hc := G) (h := ?_); (clear T F; intro ac w T F)
  repeat (first
    | (((with_reducible refine Sy.is_op ?_); refine Sy.st_pure T (h := ?_); clear T; intro ac T))
    | (with_reducible refine wpList_nil ?_)
    | (with_reducible refine wp_ret ?_)
    | (go_at_K; go_step)
    | (simp only [Exit.then, Exit.inBlock, ↓reduceIte, Nat.reduceEqDiff]))
  ((try simp only [Exit.inBlock, Exit.then]); refine Sy.st_ret1 T F rfl (by repeat (first | exact Sy.ResV.nil | apply Sy.ResV.tmp rfl | apply Sy.ResV.row rfl rfl rfl (by repeat (first | exact Sy.Take.here | apply Sy.Take.there)) (by rfl) | apply Sy.ResV.one rfl rfl rfl (by repeat (first | exact Sy.Take.here | apply Sy.Take.there)) (by rfl))) ?_)
  exact F.retV _
set_option maxRecDepth 20000 in
set_option maxHeartbeats 1000000 in
theorem settledR_any (w0 : World) (r : RegD) (p : RegA) (h : RegAt w0 r p) (source inc cell : Int) :
    Calls Try.prog 33 #[.agg (regCs r p).toArray, .int .u8 source, .int .u64 inc, .int .u64 cell] w0 (RetV w0 (.bool (settledS r source inc cell))) := by
  have F := Sy.Mem.start (Sub.refl w0)
  obtain ⟨va, vc, da, dc, oa, oc, ma, mc⟩ := p
  have hm := h.marks
  have hl := hm.1
  simp only at hm
  refine Sy.enter Try.func33 rfl Try.ntmps33 rfl ?_; intro ac T; simp only [Sy.enum, Nat.zero_add, Nat.reduceAdd] at T
  repeat (first
    | (((with_reducible refine Sy.is_load ?_); (refine Sy.st_loadOne T F (h := ?_)); clear T; intro ac T))
    | (((with_reducible refine Sy.is_box ?_); (refine Sy.st_boxAgg T F (h := ?_)); clear T F; intro ac g w T F))
    | (((with_reducible refine Sy.is_op ?_); refine Sy.st_pure T (h := ?_); clear T; intro ac T))
    | (with_reducible refine wpList_nil ?_)
    | (with_reducible refine wp_region_lit ?_)
    | (with_reducible refine wp_block ?_)
    | ((with_reducible refine wp_seq_k ?_); intro _ _)
    | (go_at_K; go_step)
    | (simp only [Exit.then, Exit.inBlock, ↓reduceIte, Nat.reduceEqDiff]))
  refine Sy.loop1 (fun g4 n ac w' => ∃ (k : Nat), n = r.marks.length - k ∧ k ≤ r.marks.length ∧ (r.marks.take k).any (stl source inc cell) = false ∧
    Sy.Tm ac 45 [(1, .int .u8 source), (2, .int .u64 inc), (3, .int .u64 cell), (4, .pointer (some ⟨g4, 0, none⟩)), (8, .bool false), (13, .int .i64 (r.marks.length : Int)), (14, .int .i64 (k : Int))] ∧
    Sy.Mem ⟨w0, [], w0⟩ w0 [⟨g4, regCs r ⟨va, vc, da, dc, oa, oc, ma, mc⟩, 51⟩] w') r.marks.length (by exact ⟨0, rfl, Nat.zero_le _, rfl, (T.part (by repeat (first | exact Sy.Part.nil | apply Sy.Part.cons rfl))), (F.sel (by repeat (first | exact Sy.Sel.nil | apply Sy.Sel.cons (by repeat (first | exact Sy.Take.here | apply Sy.Take.there)))))⟩) ?_
  clear T F
  intro n ac w hI J K hJ hK
  obtain ⟨k, rfl, hk, hno, T, F⟩ := hI
  by_cases hlt : k < r.marks.length
  · have v1 : decide ((k : Int) < (r.marks.length : Int)) = true := decide_eq_true (by omega)
    have v2 := i64_up hlt hl
    obtain ⟨b, o, cs, hsa, hcl, hat, rfl, hb⟩ := rows_get hm hlt
    subst hsa
    rcases stl_cases source inc cell r.marks[k] with ⟨t1, hb⟩ | ⟨t1, t2, hb⟩ | ⟨t1, t2, t3, hb⟩ | ⟨t1, t2, t3, b, t4, hb⟩
    · repeat (first
    | (((with_reducible refine Sy.is_guard ?_); ((refine Sy.st_unguard T (h := ?_); clear T; intro ac T))))
    | (((with_reducible refine Sy.is_load ?_); (first
    | refine Sy.st_loadOne T F (h := ?_)
    | refine Sy.st_oldAgg T F (h := ?_)); clear T; intro ac T))
    | (((with_reducible refine Sy.is_store ?_); (refine Sy.st_storeAll T F (h := ?_)); clear T F; intro ac w T F))
    | (((with_reducible refine Sy.is_alloc ?_); refine Sy.st_alloc T F (h := ?_); clear T F; intro ac g w T F))
    | (((with_reducible refine Sy.is_op ?_); refine Sy.st_pure T (h := ?_); clear T; intro ac T))
    | ((with_reducible refine Sy.is_cond ?_); (first
    | refine Sy.st_true T (h := ?_)
    | refine Sy.st_false T (h := ?_)))
    | (with_reducible refine wpList_nil ?_)
    | (with_reducible refine wp_region_lit ?_)
    | (with_reducible refine wp_block ?_)
    | (with_reducible refine wp_skip ?_)
    | ((with_reducible refine wp_seq_k ?_); intro _ _)
    | (go_at_K; go_step)
    | (simp only [Exit.then, Exit.inBlock, ↓reduceIte, Nat.reduceEqDiff]))
      exact Sy.handed hJ (k := r.marks.length - (k + 1)) (by omega) ⟨k + 1, rfl, by omega, any_up hlt hno hb, (T.part (by repeat (first | exact Sy.Part.nil | apply Sy.Part.cons rfl))), (F.sel (by repeat (first | exact Sy.Sel.nil | apply Sy.Sel.cons (by repeat (first | exact Sy.Take.here | apply Sy.Take.there)))))⟩
    · repeat (first
    | (((with_reducible refine Sy.is_guard ?_); (first
    | refine Sy.st_guard T (h := ?_)
    | (refine Sy.st_unguard T (h := ?_); clear T; intro ac T))))
    | (((with_reducible refine Sy.is_load ?_); (first
    | refine Sy.st_loadOne T F (h := ?_)
    | refine Sy.st_oldAgg T F (h := ?_)); clear T; intro ac T))
    | (((with_reducible refine Sy.is_store ?_); (refine Sy.st_storeAll T F (h := ?_)); clear T F; intro ac w T F))
    | (((with_reducible refine Sy.is_alloc ?_); refine Sy.st_alloc T F (h := ?_); clear T F; intro ac g w T F))
    | (((with_reducible refine Sy.is_op ?_); refine Sy.st_pure T (h := ?_); clear T; intro ac T))
    | ((with_reducible refine Sy.is_cond ?_); (refine Sy.st_true T (h := ?_)))
    | (with_reducible refine wpList_nil ?_)
    | (with_reducible refine wp_region_lit ?_)
    | (with_reducible refine wp_block ?_)
    | (with_reducible refine wp_skip ?_)
    | (with_reducible refine wp_ret ?_)
    | ((with_reducible refine wp_seq_k ?_); intro _ _)
    | (go_at_K; go_step)
    | (simp only [Exit.then, Exit.inBlock, ↓reduceIte, Nat.reduceEqDiff]))
      ((try simp only [Exit.inBlock, Exit.then]); refine Sy.st_ret1 T F rfl (by repeat (first | exact Sy.ResV.nil | apply Sy.ResV.tmp rfl | apply Sy.ResV.row rfl rfl rfl (by repeat (first | exact Sy.Take.here | apply Sy.Take.there)) (by rfl) | apply Sy.ResV.one rfl rfl rfl (by repeat (first | exact Sy.Take.here | apply Sy.Take.there)) (by rfl))) ?_)
      exact retBb F (any_hit _ _ k hlt hb)
    · repeat (first
    | (((with_reducible refine Sy.is_guard ?_); (first
    | refine Sy.st_guard T (h := ?_)
    | (refine Sy.st_unguard T (h := ?_); clear T; intro ac T))))
    | (((with_reducible refine Sy.is_load ?_); (first
    | refine Sy.st_loadOne T F (h := ?_)
    | refine Sy.st_oldAgg T F (h := ?_)); clear T; intro ac T))
    | (((with_reducible refine Sy.is_store ?_); (refine Sy.st_storeAll T F (h := ?_)); clear T F; intro ac w T F))
    | (((with_reducible refine Sy.is_alloc ?_); refine Sy.st_alloc T F (h := ?_); clear T F; intro ac g w T F))
    | (((with_reducible refine Sy.is_op ?_); refine Sy.st_pure T (h := ?_); clear T; intro ac T))
    | ((with_reducible refine Sy.is_cond ?_); (first
    | refine Sy.st_true T (h := ?_)
    | refine Sy.st_false T (h := ?_)))
    | (with_reducible refine wpList_nil ?_)
    | (with_reducible refine wp_region_lit ?_)
    | (with_reducible refine wp_block ?_)
    | (with_reducible refine wp_skip ?_)
    | ((with_reducible refine wp_seq_k ?_); intro _ _)
    | (go_at_K; go_step)
    | (simp only [Exit.then, Exit.inBlock, ↓reduceIte, Nat.reduceEqDiff]))
      exact Sy.handed hJ (k := r.marks.length - (k + 1)) (by omega) ⟨k + 1, rfl, by omega, any_up hlt hno hb, (T.part (by repeat (first | exact Sy.Part.nil | apply Sy.Part.cons rfl))), (F.sel (by repeat (first | exact Sy.Sel.nil | apply Sy.Sel.cons (by repeat (first | exact Sy.Take.here | apply Sy.Take.there)))))⟩
    · cases b
      · repeat (first
    | (((with_reducible refine Sy.is_guard ?_); (refine Sy.st_guard T (h := ?_))))
    | (((with_reducible refine Sy.is_load ?_); (first
    | refine Sy.st_loadOne T F (h := ?_)
    | refine Sy.st_oldAgg T F (h := ?_)); clear T; intro ac T))
    | (((with_reducible refine Sy.is_store ?_); (refine Sy.st_storeAll T F (h := ?_)); clear T F; intro ac w T F))
    | (((with_reducible refine Sy.is_alloc ?_); refine Sy.st_alloc T F (h := ?_); clear T F; intro ac g w T F))
    | (((with_reducible refine Sy.is_op ?_); refine Sy.st_pure T (h := ?_); clear T; intro ac T))
    | ((with_reducible refine Sy.is_cond ?_); (first
    | refine Sy.st_true T (h := ?_)
    | refine Sy.st_false T (h := ?_)))
    | (with_reducible refine wpList_nil ?_)
    | (with_reducible refine wp_region_lit ?_)
    | (with_reducible refine wp_block ?_)
    | (with_reducible refine wp_skip ?_)
    | ((with_reducible refine wp_seq_k ?_); intro _ _)
    | (go_at_K; go_step)
    | (simp only [Exit.then, Exit.inBlock, ↓reduceIte, Nat.reduceEqDiff]))
        exact Sy.handed hJ (k := r.marks.length - (k + 1)) (by omega) ⟨k + 1, rfl, by omega, any_up hlt hno hb, (T.part (by repeat (first | exact Sy.Part.nil | apply Sy.Part.cons rfl))), (F.sel (by repeat (first | exact Sy.Sel.nil | apply Sy.Sel.cons (by repeat (first | exact Sy.Take.here | apply Sy.Take.there)))))⟩
      · repeat (first
    | (((with_reducible refine Sy.is_guard ?_); (refine Sy.st_guard T (h := ?_))))
    | (((with_reducible refine Sy.is_load ?_); (first
    | refine Sy.st_loadOne T F (h := ?_)
    | refine Sy.st_oldAgg T F (h := ?_)); clear T; intro ac T))
    | (((with_reducible refine Sy.is_store ?_); (refine Sy.st_storeAll T F (h := ?_)); clear T F; intro ac w T F))
    | (((with_reducible refine Sy.is_alloc ?_); refine Sy.st_alloc T F (h := ?_); clear T F; intro ac g w T F))
    | (((with_reducible refine Sy.is_op ?_); refine Sy.st_pure T (h := ?_); clear T; intro ac T))
    | ((with_reducible refine Sy.is_cond ?_); (refine Sy.st_true T (h := ?_)))
    | (with_reducible refine wpList_nil ?_)
    | (with_reducible refine wp_region_lit ?_)
    | (with_reducible refine wp_block ?_)
    | (with_reducible refine wp_skip ?_)
    | (with_reducible refine wp_ret ?_)
    | ((with_reducible refine wp_seq_k ?_); intro _ _)
    | (go_at_K; go_step)
    | (simp only [Exit.then, Exit.inBlock, ↓reduceIte, Nat.reduceEqDiff]))
        ((try simp only [Exit.inBlock, Exit.then]); refine Sy.st_ret1 T F rfl (by repeat (first | exact Sy.ResV.nil | apply Sy.ResV.tmp rfl | apply Sy.ResV.row rfl rfl rfl (by repeat (first | exact Sy.Take.here | apply Sy.Take.there)) (by rfl) | apply Sy.ResV.one rfl rfl rfl (by repeat (first | exact Sy.Take.here | apply Sy.Take.there)) (by rfl))) ?_)
        exact retBb F (any_hit _ _ k hlt hb)
  obtain rfl : k = r.marks.length := by omega
  have v1 : decide ((r.marks.length : Int) < (r.marks.length : Int)) = false := decide_eq_false (by omega)
  rw [List.take_length] at hno
  repeat (first
    | (((with_reducible refine Sy.is_op ?_); refine Sy.st_pure T (h := ?_); clear T; intro ac T))
    | ((with_reducible refine Sy.is_cond ?_); (refine Sy.st_false T (h := ?_)))
    | (with_reducible refine wpList_nil ?_)
    | (with_reducible refine wp_region_lit ?_)
    | (with_reducible refine wp_exit ?_)
    | (with_reducible refine wp_ret ?_)
    | ((with_reducible refine wp_seq_k ?_); intro _ _)
    | (go_at_K; go_step)
    | (simp only [Exit.then, Exit.inBlock, ↓reduceIte, Nat.reduceEqDiff]))
  ((try simp only [Exit.inBlock, Exit.then]); refine Sy.st_ret1 T F rfl (by repeat (first | exact Sy.ResV.nil | apply Sy.ResV.tmp rfl | apply Sy.ResV.row rfl rfl rfl (by repeat (first | exact Sy.Take.here | apply Sy.Take.there)) (by rfl) | apply Sy.ResV.one rfl rfl rfl (by repeat (first | exact Sy.Take.here | apply Sy.Take.there)) (by rfl))) ?_)
  exact retBb F hno
end En
end Go.Proofs.Ytdpmfjbhadapiaa
