/- slices.DeleteFunc at a register's cells, in a slice that the caller owns. Conditions: the list is short; the closure's contract. The walk of engine.consume. Conditions: the register is the caller's to write, its lists are short, its marks rise. -/
import Derived.Test.YtdpmfjbhadapiaaEnH
import Derived.Test.YtdpmfjbhadapiaaIdx
import Derived.Test.YtdpmfjbhadapiaaEnL
import Derived.Test.YtdpmfjbhadapiaaEnJ
import Derived.Test.YtdpmfjbhadapiaaEnC
namespace Go.Proofs.Ytdpmfjbhadapiaa
open Go.RowKit
set_option linter.unusedVariables false
set_option linter.unusedSimpArgs false
namespace En
open Sy (RetV RetM Sub RetO)
open Rg (RowsOf eqT eqF i64_up i64_wrap U8 U64 I64 CellD CellR idxS idx_any any_up ClosB flat_len flat_rows)
theorem cell_ownX {w : World} {g : Nat} {cs : List Value} {t : TypeId} (h : w.heap[g]? = some (.cells cs.toArray t (0, 0))) (i : Nat) {v : Value} (hv : cs[i]? = some v) : w.cell? ⟨g, i, none⟩ = some v := by simp [World.cell?, h, hv]
def cellW (c : CellD) : List Value := [.int .u64 (c.n : Int), .int .u8 (c.target : Int), .int .i64 c.action, .int .i64 c.arg]
theorem cells_map {m : World} {css : List (List Value)} {l : List CellD} (h : RowsOf CellR 4 m css l) : css = l.map cellW := by
  refine List.ext_getElem (by simp [h.1]) fun i h1 h2 => ?_
  rw [List.getElem_map]
  exact ((h.2 i h1 (by simpa using h2)).2).1
theorem flat4 (l : List CellD) : (l.map cellW).flatten.length = l.length * 4 := by
  rw [flat_len 4 _ (by intro x hx; obtain ⟨c, _, rfl⟩ := List.mem_map.1 hx; rfl), List.length_map]
theorem flat4_at {l : List CellD} {k : Nat} (h : k < l.length) (j : Nat) (hj : j < 4) : (l.map cellW).flatten[k * 4 + j]? = (cellW l[k])[j]? := by
  have := Rg.flat_get 4 (l.map cellW) (by intro x hx; obtain ⟨c, _, rfl⟩ := List.mem_map.1 hx; rfl) k j (by simpa using h) hj
  rw [this, List.getElem_map]
theorem idx_take {α : Type} {p : α → Bool} {l : List α} : idxS p l = -1 ∧ l.any p = false ∨ ∃ k, ∃ h : k < l.length, idxS p l = (k : Int) ∧ (l.take k).any p = false ∧ p l[k] = true := by
  cases h : l.findIdx? p with
  | none =>
    have h2 : l.any p = false := by
      rw [List.any_eq_false]
      intro x hx
      rw [List.findIdx?_eq_none_iff.1 h x hx]
      simp
    exact .inl ⟨Rg.idx_none h2, h2⟩
  | some k =>
    rw [List.findIdx?_eq_some_iff_getElem] at h
    obtain ⟨hk, hp, hj⟩ := h
    have h2 : (l.take k).any p = false := by
      rw [List.any_eq_false]
      intro x hx
      obtain ⟨j, hj1, rfl⟩ := List.getElem_of_mem hx
      rw [List.getElem_take]
      exact hj j (by rw [List.length_take] at hj1; omega)
    exact .inr ⟨k, hk, Rg.idx_some hk h2 hp, h2, hp⟩
/-- what is kept of the first i -/
def keepI (p : CellD → Bool) (l : List CellD) (i : Nat) : List CellD := (l.take i).filter fun c => !p c
theorem keep_len {p : CellD → Bool} {l : List CellD} {i : Nat} : (keepI p l i).length ≤ i := Nat.le_trans (List.length_filter_le _ _) (by rw [List.length_take]; omega)
theorem keep_t {p : CellD → Bool} {l : List CellD} {i : Nat} (h : i < l.length) (hp : p l[i] = true) : keepI p l (i + 1) = keepI p l i := by
  unfold keepI
  rw [List.take_succ_eq_append_getElem h, List.filter_append]
  simp [hp]
theorem keep_f {p : CellD → Bool} {l : List CellD} {i : Nat} (h : i < l.length) (hp : p l[i] = false) : keepI p l (i + 1) = keepI p l i ++ [l[i]] := by
  unfold keepI
  rw [List.take_succ_eq_append_getElem h, List.filter_append]
  simp [hp]
theorem keep_all {p : CellD → Bool} {l : List CellD} {i : Nat} (h : (l.take i).any p = false) : keepI p l i = l.take i := by
  unfold keepI
  rw [List.filter_eq_self]
  intro x hx
  rw [List.any_eq_false] at h
  simpa using h x hx
theorem keep_end {p : CellD → Bool} {l : List CellD} : keepI p l l.length = l.filter fun c => !p c := by unfold keepI; rw [List.take_length]
def delMid (kl : List CellD) (cs : List Value) : List Value := (kl.map cellW).flatten ++ cs.drop (kl.length * 4)
theorem mid_len {kl : List CellD} {cs : List Value} (h : kl.length * 4 ≤ cs.length) : (delMid kl cs).length = cs.length := by
  unfold delMid
  rw [List.length_append, flat4, List.length_drop]
  omega
theorem mid_put {kl : List CellD} {cs : List Value} {x : CellD} (h : (kl.length + 1) * 4 ≤ cs.length) : Sy.putL (delMid kl cs) (kl.length * 4) (cellW x) = delMid (kl ++ [x]) cs := by
  unfold delMid
  rw [Sy.putL_at (flat4 kl), List.map_append, List.flatten_append, List.drop_drop]
  have e1 : (cellW x).length = 4 := rfl
  rw [e1]
  simp only [List.map_cons, List.map_nil, List.flatten_cons, List.flatten_nil, List.append_nil, List.length_append, List.length_cons, List.length_nil]
  congr 2
  omega
theorem mid_row {l kl : List CellD} {cs : List Value} {i : Nat} (hi : i < l.length) (hk : kl.length ≤ i) (hcs : cs.take (l.length * 4) = (l.map cellW).flatten) (j : Nat) (v : Value) (h : (cellW l[i])[j]? = some v) : (delMid kl cs)[i * 4 + j]? = some v := by
  have hj : j < 4 := by
    have := (List.getElem?_eq_some_iff.1 h).1
    exact this
  unfold delMid
  rw [List.getElem?_append_right (by rw [flat4]; omega), flat4, List.getElem?_drop, ← flat4_at hi j hj, ] at *
  rw [← hcs, List.getElem?_take_of_lt (by omega)] at h
  rw [← h]
  congr 1
  omega
set_option maxRecDepth 20000 in
set_option maxHeartbeats 2000000 in
theorem delFunc (W : World) {a : Option Addr} {cap : Nat} {l : List CellD} (hl : l.length ≤ 1000) (hok : ∀ c ∈ l, CellR W (cellW c) c) (ho : Own W 0 47 4 (.slice a l.length cap) l.length (l.map cellW).flatten) {f : FuncId} {ks : List Value} {p : CellD → Bool} (hfl : Sy.fl.contains f = true)
    (hc : ∀ m, (∀ q, blk (.slice a l.length cap) ≠ some q.block → m.cell? q = W.cell? q) → ClosB CellR m f ks l p) :
    Calls Try.prog 79 #[.slice a l.length cap, .func (.func f) #[] ks.toArray] W (RetO W (.slice a l.length cap) 47 4 (l.filter fun c => !p c).length ((l.filter fun c => !p c).map cellW).flatten) := by
  have hrows0 : RowsOf CellR 4 W (l.map cellW) l := ⟨by simp, fun i h1 h2 => ⟨by rw [List.getElem_map]; rfl, by rw [List.getElem_map]; exact hok _ (List.getElem_mem h2)⟩⟩
  have hrows := own_rows (R := CellR) (w := W) (by omega : 0 < 4) hrows0 (fun _ _ h => h) ho
  have hcW := hc W (fun _ _ => rfl)
  obtain ⟨m0, hm0, _, F⟩ := Sy.Own.startO ho
  have hcM := hc m0 hm0
  clear hc hm0
  refine Sy.enter Try.func79 rfl Try.ntmps79 rfl ?_; intro ac T; simp only [Sy.enum, Nat.zero_add, Nat.reduceAdd] at T
  repeat (first
    | (((with_reducible refine Sy.is_op ?_); refine Sy.st_pure T (h := ?_); clear T; intro ac T))
    | (with_reducible refine wpList_nil ?_)
    | (with_reducible refine wp_region_lit ?_)
    | ((with_reducible refine wp_seq_k ?_); intro _ _)
    | (go_at_K; go_step)
    | (simp only [Exit.then, Exit.inBlock, ↓reduceIte, Nat.reduceEqDiff]))
  rcases idx_take (p := p) (l := l) with ⟨hi, hn⟩ | ⟨k, hk, hi, hn, hp⟩
  · have t1 := eqT (a := idxS p l) (b := -1) hi
    have e : (l.filter fun c => !p c) = l := by
      rw [List.filter_eq_self]
      intro x hx
      rw [List.any_eq_false] at hn
      simpa using hn x hx
    refine Sy.st_callV0 T F (hc := Rg.indexCell _ hrows hfl hcW) (h := ?_); (clear T F; intro ac w T F)
    repeat (first
    | (((with_reducible refine Sy.is_op ?_); refine Sy.st_pure T (h := ?_); clear T; intro ac T))
    | ((with_reducible refine Sy.is_cond ?_); (refine Sy.st_true T (h := ?_)))
    | (with_reducible refine wpList_nil ?_)
    | (with_reducible refine wp_region_lit ?_)
    | (with_reducible refine wp_ret ?_)
    | ((with_reducible refine wp_seq_k ?_); intro _ _)
    | (go_at_K; go_step)
    | (simp only [Exit.then, Exit.inBlock, ↓reduceIte, Nat.reduceEqDiff]))
    ((try simp only [Exit.inBlock, Exit.then]); refine Sy.st_ret1 T F rfl (by repeat (first | exact Sy.ResV.nil | apply Sy.ResV.tmp rfl | apply Sy.ResV.row rfl rfl rfl (by repeat (first | exact Sy.Take.here | apply Sy.Take.there)) (by rfl) | apply Sy.ResV.one rfl rfl rfl (by repeat (first | exact Sy.Take.here | apply Sy.Take.there)) (by rfl))) ?_)
    rw [e]
    exact F.retO
  · have t1 := eqF (a := idxS p l) (b := -1) (by omega)
    have t2 : IntKind.i64.wrap (idxS p l + 1) = ((k + 1 : Nat) : Int) := by rw [hi, i64_wrap (by omega) (by omega)]; omega
    refine Sy.st_callV0 T F (hc := Rg.indexCell _ hrows hfl hcW) (h := ?_); (clear T F; intro ac w T F)
    clear hrows hcW hrows0 ho
    repeat (first
    | (((with_reducible refine Sy.is_op ?_); refine Sy.st_pure T (h := ?_); clear T; intro ac T))
    | ((with_reducible refine Sy.is_cond ?_); (refine Sy.st_false T (h := ?_)))
    | (with_reducible refine wpList_nil ?_)
    | (with_reducible refine wp_region_lit ?_)
    | (with_reducible refine wp_block ?_)
    | (with_reducible refine wp_skip ?_)
    | ((with_reducible refine wp_seq_k ?_); intro _ _)
    | (go_at_K; go_step)
    | (simp only [Exit.then, Exit.inBlock, ↓reduceIte, Nat.reduceEqDiff]))
    rw [hi] at T
    clear hi t1 t2
    obtain ⟨_, _, hvv, _, hncap, _, _⟩ := F.ext.2.1
    simp only [Value.slice.injEq] at hvv
    rw [← hvv.2.2] at hncap
    clear hvv
    obtain ⟨gs, cs, hma, _, hcsl, hnc, hcm, htk, _, F⟩ := F.openSl (show cap ≠ 0 by omega)
    subst hma
    have hk1 : keepI p l (k + 1) = l.take k := by rw [keep_t hk hp, keep_all hn]
    have hkl : (l.take k).length = k := by rw [List.length_take]; omega
    have hm : delMid (keepI p l (k + 1)) cs = cs := by
      rw [hk1]
      unfold delMid
      rw [hkl, List.map_take, ← (flat_take 4 (l.map cellW) (by intro x hx; obtain ⟨c, _, rfl⟩ := List.mem_map.1 hx; rfl) k).1, ← htk, List.take_take, Nat.min_eq_left (by omega), List.take_append_drop]
    rw [← hm] at F
    clear hncap hn
    refine wp_loop_ghost_k (fun n ac w' => ∃ i j, n = l.length - i ∧ i ≤ l.length ∧ j = (keepI p l i).length ∧ j < i ∧ Sy.Tm ac 42 [(0, .slice (some ⟨gs, 0, none⟩) l.length cap), (1, .func (.func f) #[] ks.toArray), (5, .int .i64 (j : Int)), (6, .int .i64 (i : Int))] ∧ Sy.MemE Sy.E0 ⟨W, (blk (.slice (some ⟨gs, 0, none⟩) l.length cap)).toList, m0⟩ m0 [⟨gs, delMid (keepI p l i) cs, 47⟩] w') (l.length - (k + 1)) ?_ ?_
    · exact ⟨k + 1, k, rfl, by omega, by rw [hk1, hkl], by omega, (T.part (by repeat (first | exact Sy.Part.nil | apply Sy.Part.cons rfl))), F⟩
    clear T F hm hkl hk1
    intro n ac w hI J K hJ hK
    obtain ⟨i, j, rfl, hi, hj, hji, T, F⟩ := hI
    by_cases hlt : i < l.length
    · have hjl : j < l.length := by omega
      have v1 : decide ((i : Int) < (l.length : Int)) = true := decide_eq_true (by omega)
      have v2 : IntKind.i64.wrap ((i : Int) + 1) = ((i + 1 : Nat) : Int) := by rw [i64_wrap (by omega) (by omega)]; omega
      have v3 : IntKind.i64.wrap ((j : Int) + 1) = ((j + 1 : Nat) : Int) := by rw [i64_wrap (by omega) (by omega)]; omega
      repeat (first
    | (((with_reducible refine Sy.is_op ?_); refine Sy.st_pure T (h := ?_); clear T; intro ac T))
    | ((with_reducible refine Sy.is_cond ?_); (refine Sy.st_true T (h := ?_)))
    | (with_reducible refine wpList_nil ?_)
    | (with_reducible refine wp_region_lit ?_)
    | (with_reducible refine wp_block ?_)
    | (with_reducible refine wp_skip ?_)
    | ((with_reducible refine wp_seq_k ?_); intro _ _)
    | (go_at_K; go_step)
    | (simp only [Exit.then, Exit.inBlock, ↓reduceIte, Nat.reduceEqDiff]))
      have hat : Sy.At w gs (0 + i * 4) (cellW l[i]) := fun t v hv => cell_ownX (F.get Sy.Take.here) _ (by
        rw [Nat.zero_add]
        exact mid_row hlt (by omega) htk t v hv)
      refine Sy.st_loadW T hat rfl (h := ?_); clear T hat; intro ac T
      repeat (first
    | (((with_reducible refine Sy.is_load ?_); (refine Sy.st_loadAll T F (h := ?_)); clear T; intro ac T))
    | (((with_reducible refine Sy.is_store ?_); (refine Sy.st_storeAll T F (h := ?_)); clear T F; intro ac w T F))
    | (((with_reducible refine Sy.is_alloc ?_); refine Sy.st_alloc T F (h := ?_); clear T F; intro ac g w T F))
    | (((with_reducible refine Sy.is_op ?_); refine Sy.st_pure T (h := ?_); clear T; intro ac T))
    | (with_reducible refine wpList_nil ?_)
    | (with_reducible refine wp_region_lit ?_)
    | ((with_reducible refine wp_seq_k ?_); intro _ _)
    | (go_at_K; go_step)
    | (simp only [Exit.then, Exit.inBlock, ↓reduceIte, Nat.reduceEqDiff]))
      have hcc := hcM w m0 (Sub.refl _) F.sub l[i] (List.getElem_mem hlt) (cellW l[i]) (hok _ (List.getElem_mem hlt))
      cases hp : p l[i]
      · rw [hp] at hcc
        refine Sy.st_callV (us := []) (ks := ks) T F (by exact rfl) hfl (by exact rfl) (by exact rfl) hcc ?_; (clear T F; intro ac w T F)
        repeat (first
    | (((with_reducible refine Sy.is_load ?_); (refine Sy.st_loadAll T F (h := ?_)); clear T; intro ac T))
    | (((with_reducible refine Sy.is_op ?_); refine Sy.st_pure T (h := ?_); clear T; intro ac T))
    | ((with_reducible refine Sy.is_cond ?_); (refine Sy.st_true T (h := ?_)))
    | (with_reducible refine wpList_nil ?_)
    | (with_reducible refine wp_region_lit ?_)
    | ((with_reducible refine wp_seq_k ?_); intro _ _)
    | (go_at_K; go_step)
    | (simp only [Exit.then, Exit.inBlock, ↓reduceIte, Nat.reduceEqDiff]))
        refine Sy.st_putB T F (Sy.Take.there Sy.Take.here) (vs := cellW l[i]) ?_ (by intro v hv; simp [cellW] at hv; rcases hv with rfl | rfl | rfl | rfl <;> rfl) rfl (h := ?_)
        · rw [mid_len (by rw [← hj]; omega)]
          show 0 + j * 4 + 4 ≤ cs.length
          omega
        clear T F; intro ac w T F
        have e1 : Sy.putL (delMid (keepI p l i) cs) (0 + j * 4) (cellW l[i]) = delMid (keepI p l (i + 1)) cs := by
          rw [Nat.zero_add, hj, mid_put (by rw [← hj]; omega), keep_f hlt hp]
        rw [e1] at F
        repeat (first
    | (((with_reducible refine Sy.is_op ?_); refine Sy.st_pure T (h := ?_); clear T; intro ac T))
    | (with_reducible refine wpList_nil ?_)
    | (with_reducible refine wp_region_lit ?_)
    | (go_at_K; go_step)
    | (simp only [Exit.then, Exit.inBlock, ↓reduceIte, Nat.reduceEqDiff]))
        exact Sy.handed hJ (k := l.length - (i + 1)) (by omega) ⟨i + 1, j + 1, rfl, by omega, by rw [keep_f hlt hp, List.length_append, ← hj]; rfl, by omega, (T.part (by repeat (first | exact Sy.Part.nil | apply Sy.Part.cons rfl))), (F.sel (by repeat (first | exact Sy.Sel.nil | apply Sy.Sel.cons (by repeat (first | exact Sy.Take.here | apply Sy.Take.there)))))⟩
      · rw [hp] at hcc
        refine Sy.st_callV (us := []) (ks := ks) T F (by exact rfl) hfl (by exact rfl) (by exact rfl) hcc ?_; (clear T F; intro ac w T F)
        repeat (first
    | (((with_reducible refine Sy.is_op ?_); refine Sy.st_pure T (h := ?_); clear T; intro ac T))
    | ((with_reducible refine Sy.is_cond ?_); (refine Sy.st_false T (h := ?_)))
    | (with_reducible refine wpList_nil ?_)
    | (with_reducible refine wp_region_lit ?_)
    | (with_reducible refine wp_skip ?_)
    | (go_at_K; go_step)
    | (simp only [Exit.then, Exit.inBlock, ↓reduceIte, Nat.reduceEqDiff]))
        rw [← keep_t hlt hp] at F
        exact Sy.handed hJ (k := l.length - (i + 1)) (by omega) ⟨i + 1, j, rfl, by omega, by rw [keep_t hlt hp]; exact hj, by omega, (T.part (by repeat (first | exact Sy.Part.nil | apply Sy.Part.cons rfl))), (F.sel (by repeat (first | exact Sy.Sel.nil | apply Sy.Sel.cons (by repeat (first | exact Sy.Take.here | apply Sy.Take.there)))))⟩
    · obtain rfl : i = l.length := by omega
      have v1 : decide ((l.length : Int) < (l.length : Int)) = false := decide_eq_false (by omega)
      rw [keep_end] at F hj
      repeat (first
    | (((with_reducible refine Sy.is_op ?_); refine Sy.st_pure T (h := ?_); clear T; intro ac T))
    | ((with_reducible refine Sy.is_cond ?_); (refine Sy.st_false T (h := ?_)))
    | (with_reducible refine wpList_nil ?_)
    | (with_reducible refine wp_region_lit ?_)
    | (with_reducible refine wp_exit ?_)
    | ((with_reducible refine wp_seq_k ?_); intro _ _)
    | (go_at_K; go_step)
    | (simp only [Exit.then, Exit.inBlock, ↓reduceIte, Nat.reduceEqDiff]))
      refine Sy.st_val (Sy.runs_sliceLa T (show j ≤ l.length by omega) (show cap ≠ j by omega) (by exact rfl) (by exact rfl) (by exact rfl) (by exact rfl) (by exact rfl) (by exact rfl)) T (by exact rfl) ?_; (clear T; intro ac T)
      refine Sy.st_clearB T F Sy.Take.here ?_ (h := ?_)
      · rw [mid_len (by rw [← hj]; omega)]
        omega
      clear T F; intro zs ac w hzs T F
      repeat (first
    | (((with_reducible refine Sy.is_op ?_); refine Sy.st_pure T (h := ?_); clear T; intro ac T))
    | (with_reducible refine wpList_nil ?_)
    | (with_reducible refine wp_region_lit ?_)
    | ((with_reducible refine wp_seq_k ?_); intro _ _)
    | (go_at_K; go_step)
    | (simp only [Exit.then, Exit.inBlock, ↓reduceIte, Nat.reduceEqDiff]))
      refine Sy.st_val (Sy.runs_sliceHa T (show j ≤ cap by omega) (by exact rfl) (by exact rfl) (by exact rfl) (by exact rfl) (by exact rfl) (by exact rfl)) T (by exact rfl) ?_; (clear T; intro ac T)
      repeat (first
    | (((with_reducible refine Sy.is_op ?_); refine Sy.st_pure T (h := ?_); clear T; intro ac T))
    | (with_reducible refine wpList_nil ?_)
    | (with_reducible refine wp_ret ?_)
    | (go_at_K; go_step)
    | (simp only [Exit.then, Exit.inBlock, ↓reduceIte, Nat.reduceEqDiff]))
      ((try simp only [Exit.inBlock, Exit.then]); refine Sy.st_ret1 T F rfl (by repeat (first | exact Sy.ResV.nil | apply Sy.ResV.tmp rfl | apply Sy.ResV.row rfl rfl rfl (by repeat (first | exact Sy.Take.here | apply Sy.Take.there)) (by rfl) | apply Sy.ResV.one rfl rfl rfl (by repeat (first | exact Sy.Take.here | apply Sy.Take.there)) (by rfl))) ?_)
      rw [hj] at F hzs ⊢
      generalize (l.filter fun c => !p c) = kl at *
      have e2 : Sy.putL (delMid kl cs) (0 + kl.length * 4) zs = (kl.map cellW).flatten ++ zs ++ (cs.drop (kl.length * 4)).drop zs.length := by
        unfold delMid
        rw [Nat.zero_add, Sy.putL_at (flat4 kl)]
      rw [e2] at F
      refine (F.closeSl (cap := cap) (n := kl.length) ?_ (by omega) hcm ?_).retO
      · rw [List.length_append, List.length_append, flat4, List.length_drop, List.length_drop, hzs]
        omega
      · rw [List.append_assoc]
        exact List.take_left' (flat4 kl)
end En
end Go.Proofs.Ytdpmfjbhadapiaa
namespace Go.Proofs.Ytdpmfjbhadapiaa
open Go.RowKit
set_option linter.unusedVariables false
set_option linter.unusedSimpArgs false
namespace En
open Sy (RetV RetM Sub RetE)
open Rg (RowsOf eqT eqF i64_up i64_wrap U8 U64 I64 RegD RegA RegAt regCs DoneD DoneR MarkD MarkR CellD CellR OpD opCs)
open Tb (TabD TabAt tabCs fireS FireD OkA)
/-- the register as it stands -/
theorem now_reg {c : Sy.Cx} {m w : World} {bs : List Sy.Blk} {r : RegD} {q : RegA} {cd co cm : List (List Value)} (F : Sy.MemE (Sy.OwL (nowL r q cd co cm)) c m bs w) (h : NowAt m r q cd co cm) : RegAt w r q := by
  have o1 := F.ownAt (by unfold nowL; exact List.mem_cons_self ..)
  have o2 := F.ownAt (by unfold nowL; exact List.mem_cons_of_mem _ (List.mem_cons_self ..))
  have o3 := F.ownAt (by unfold nowL; exact List.mem_cons_of_mem _ (List.mem_cons_of_mem _ (List.mem_cons_self ..)))
  refine ⟨h.kind, h.inc, h.state, h.last, h.vars.sub F.sub, own_rows (by omega) h.done (fun _ _ k => k.sub F.sub) o1, own_rows (R := CellR) (by omega) h.out (fun _ _ k => k) o2, own_rows (R := MarkR) (by omega) h.marks (fun _ _ k => k) o3, h.cv, ?_, ?_, ?_⟩
  · obtain ⟨_, _, hv, _, h1, h2, _⟩ := o1
    obtain ⟨_, _, rfl⟩ := Value.slice.inj hv
    exact ⟨h1, h2⟩
  · obtain ⟨_, _, hv, _, h1, h2, _⟩ := o2
    obtain ⟨_, _, rfl⟩ := Value.slice.inj hv
    exact ⟨h1, h2⟩
  · obtain ⟨_, _, hv, _, h1, h2, _⟩ := o3
    obtain ⟨_, _, rfl⟩ := Value.slice.inj hv
    exact ⟨h1, h2⟩
def marked (r : RegD) (o : OpD) : RegD := { r with marks := insK (·.source) r.marks ⟨o.source, o.inc, o.cell⟩ }
/-- the register and the error behind consume -/
def consumeR (t : TabD) (r : RegD) (o : OpD) : RegD × Nat :=
  if settledS r o.source o.inc o.cell = true then (r, 14) else if r.kind ≠ 1 then (r, 11) else (marked (fireR t r o 0).1 o, (fireR t r o 0).2)
theorem fire_marks (t : TabD) (r : RegD) (o : OpD) (party : Int) : (fireR t r o party).1.marks = r.marks := by
  simp only [fireR]
  split
  · rfl
  · split <;> rfl
set_option maxRecDepth 20000 in
set_option maxHeartbeats 2000000 in
theorem consume_any (W m : World) {g : Nat} {r : RegD} {q : RegA} {cd co cm : List (List Value)} (F : Sy.Handx (nowL r q cd co cm) m W g (regCs r q) 51) (h : NowAt m r q cd co cm) (hl : r.out.length ≤ 1000) (hm : (r.marks.map (·.source)).Pairwise (· < ·)) (hml : r.marks.length ≤ 1000) (t : TabD) (ta : Option Addr) (tc : Nat) (ht : TabAt m t ta tc) (o : OpD) (ho : OkA o.arg) (hx : o.source < 256) (hx1 : U64 o.inc) (hx2 : U64 o.cell) :
    Calls Try.prog 78 #[.agg (tabCs t ta tc).toArray, .pointer (some ⟨g, 0, none⟩), .agg (opCs o).toArray] W (RetE (nowL r q cd co cm) m W g 51 (NowE (.int .i64 ((consumeR t r o).2 : Int)) (consumeR t r o).1)) := by
  obtain ⟨va, vc, da, dc, oa, oc, ma, mc⟩ := q
  refine Sy.enter Try.func78 rfl Try.ntmps78 rfl ?_; intro ac T; simp only [Sy.enum, Nat.zero_add, Nat.reduceAdd] at T
  repeat (first
    | (((with_reducible refine Sy.is_box ?_); (refine Sy.st_boxAgg T F (h := ?_)); clear T F; intro ac g w T F))
    | (((with_reducible refine Sy.is_op ?_); refine Sy.st_pure T (h := ?_); clear T; intro ac T))
    | (with_reducible refine wpList_nil ?_)
    | (with_reducible refine wp_region_lit ?_)
    | (with_reducible refine wp_block ?_)
    | ((with_reducible refine wp_seq_k ?_); intro _ _)
    | (go_at_K; go_step)
    | (simp only [Exit.then, Exit.inBlock, ↓reduceIte, Nat.reduceEqDiff])
    | ((with_reducible refine Sy.is_drawn (id := 1) ?_); refine Sy.sx_region F [] (.t 0 (.t 1 (.t 2 (.t 3 (.t 4 (.t 5 (.t 6 (.t 7 (.t 8 (.h 9 (.t 10 .e))))))))))) [] (by kernel_rfl) ?_; (clear F; intro w F))
    | ((refine Sy.sx_plain (h := ?_)); (first
    | ((with_reducible refine Sy.ux_load ?_); (first
    | refine Sy.sx_val (Sy.rx_loadOne T F) T rfl ?_
    | refine Sy.sx_val (Sy.rx_loadAll T F) T rfl ?_); clear T; intro ac T)
    | (refine Sy.sx_pure T (h := ?_); clear T; intro ac T)); show Sy.wpUx _ _ _ _ _ _ _ _ _))
  have hreg := now_reg F h
  cases hs : settledS r o.source o.inc o.cell with
  | true =>
    have e : consumeR t r o = (r, 14) := by unfold consumeR; rw [if_pos hs]
    have G := settled_any w r _ hreg o.source o.inc o.cell
    rw [hs] at G
    refine Sy.sx_callV0 rfl T F (hc := G) (h := ?_); (clear T F; intro ac w T F)
    repeat (first
    | (((with_reducible refine Sy.is_op ?_); refine Sy.st_pure T (h := ?_); clear T; intro ac T))
    | ((with_reducible refine Sy.is_cond ?_); (refine Sy.st_true T (h := ?_)))
    | (with_reducible refine wpList_nil ?_)
    | (with_reducible refine wp_region_lit ?_)
    | (with_reducible refine wp_ret ?_)
    | ((with_reducible refine wp_seq_k ?_); intro _ _)
    | (go_at_K; go_step)
    | (simp only [Exit.then, Exit.inBlock, ↓reduceIte, Nat.reduceEqDiff])
    | ((refine Sy.sx_plain (h := ?_)); ((refine Sy.sx_pure T (h := ?_); clear T; intro ac T)); show Sy.wpUx _ _ _ _ _ _ _ _ _)
    | (with_reducible refine Sy.sx_nil ?_)
    | (with_reducible refine Sy.sx_end ?_))
    ((try simp only [Exit.inBlock, Exit.then]); refine Sy.st_ret1 T F rfl (by repeat (first | exact Sy.ResV.nil | apply Sy.ResV.tmp rfl | apply Sy.ResV.row rfl rfl rfl (by repeat (first | exact Sy.Take.here | apply Sy.Take.there)) (by rfl) | apply Sy.ResV.one rfl rfl rfl (by repeat (first | exact Sy.Take.here | apply Sy.Take.there)) (by rfl))) ?_)
    rw [e]
    exact F.retE (by repeat (first | exact Sy.Take.here | apply Sy.Take.there)) ⟨rfl, ⟨va, vc, da, dc, oa, oc, ma, mc⟩, cd, co, cm, rfl, rfl, h⟩
  | false =>
    have G := settled_any w r _ hreg o.source o.inc o.cell
    rw [hs] at G
    by_cases hk : r.kind = 1
    · have t1 := eqT (a := (r.kind : Int)) (b := 1) (by omega)
      have e : consumeR t r o = (marked (fireR t r o 0).1 o, (fireR t r o 0).2) := by
        unfold consumeR
        rw [if_neg (by rw [hs]; simp), if_neg (by omega)]
      have e2 := fire_marks t r o 0
      refine Sy.sx_callV0 rfl T F (hc := G) (h := ?_); (clear T F; intro ac w T F)
      clear G hreg
      repeat (first
    | (((with_reducible refine Sy.is_load ?_); (first
    | refine Sy.st_loadOne T F (h := ?_)
    | refine Sy.st_loadAll T F (h := ?_)); clear T; intro ac T))
    | (((with_reducible refine Sy.is_op ?_); refine Sy.st_pure T (h := ?_); clear T; intro ac T))
    | ((with_reducible refine Sy.is_cond ?_); (refine Sy.st_false T (h := ?_)))
    | (with_reducible refine wpList_nil ?_)
    | (with_reducible refine wp_region_lit ?_)
    | (with_reducible refine wp_skip ?_)
    | ((with_reducible refine wp_seq_k ?_); intro _ _)
    | (go_at_K; go_step)
    | (simp only [Exit.then, Exit.inBlock, ↓reduceIte, Nat.reduceEqDiff])
    | ((refine Sy.sx_plain (h := ?_)); ((refine Sy.sx_pure T (h := ?_); clear T; intro ac T)); show Sy.wpUx _ _ _ _ _ _ _ _ _)
    | (with_reducible refine Sy.sx_nil ?_)
    | (with_reducible refine Sy.sx_end ?_))
      refine Sy.st_callE T F (L1 := []) (by rw [List.append_nil]) (by repeat (first | exact Sy.Take.here | apply Sy.Take.there)) (fun F' => fire_any w m F' h hl t ta tc ht o ho 0) (h := ?_)
      clear T F; intro v m' cs' L' ac w hR hS T F
      generalize fireR t r o 0 = fr at *
      obtain ⟨rfl, ⟨va, vc, da, dc, oa, oc, ma, mc⟩, cd2, co2, cm2, rfl, rfl, h2⟩ := hR
      rw [List.append_nil] at F
      repeat (first
    | (((with_reducible refine Sy.is_load ?_); (refine Sy.st_loadAll T F (h := ?_)); clear T; intro ac T))
    | (((with_reducible refine Sy.is_op ?_); refine Sy.st_pure T (h := ?_); clear T; intro ac T))
    | (with_reducible refine wpList_nil ?_)
    | (with_reducible refine wp_region_lit ?_)
    | ((with_reducible refine wp_seq_k ?_); intro _ _)
    | (go_at_K; go_step)
    | (simp only [Exit.then, Exit.inBlock, ↓reduceIte, Nat.reduceEqDiff]))
      refine Sy.st_callE T F (L1 := []) (by rw [List.append_nil]) (by repeat (first | exact Sy.Take.here | apply Sy.Take.there)) (fun F' => mark_any w m' F' h2 o hx hx1 hx2 (by rw [e2]; exact hm) (by rw [e2]; exact hml)) (h := ?_)
      clear T F; intro v m2 cs' L' ac w hR hS2 T F
      obtain ⟨rfl, q2, cd3, co3, cm3, rfl, rfl, h3⟩ := hR
      rw [List.append_nil] at F
      repeat (first
    | (((with_reducible refine Sy.is_op ?_); refine Sy.st_pure T (h := ?_); clear T; intro ac T))
    | (with_reducible refine wpList_nil ?_)
    | (with_reducible refine wp_region_lit ?_)
    | (with_reducible refine wp_ret ?_)
    | ((with_reducible refine wp_seq_k ?_); intro _ _)
    | (go_at_K; go_step)
    | (simp only [Exit.then, Exit.inBlock, ↓reduceIte, Nat.reduceEqDiff]))
      ((try simp only [Exit.inBlock, Exit.then]); refine Sy.st_ret1 T F rfl (by repeat (first | exact Sy.ResV.nil | apply Sy.ResV.tmp rfl | apply Sy.ResV.row rfl rfl rfl (by repeat (first | exact Sy.Take.here | apply Sy.Take.there)) (by rfl) | apply Sy.ResV.one rfl rfl rfl (by repeat (first | exact Sy.Take.here | apply Sy.Take.there)) (by rfl))) ?_)
      rw [e]
      exact F.retE (by repeat (first | exact Sy.Take.here | apply Sy.Take.there)) ⟨rfl, q2, cd3, co3, cm3, rfl, rfl, h3⟩
    · have t1 := eqF (a := (r.kind : Int)) (b := 1) (by omega)
      have e : consumeR t r o = (r, 11) := by
        unfold consumeR
        rw [if_neg (by rw [hs]; simp), if_pos hk]
      refine Sy.sx_callV0 rfl T F (hc := G) (h := ?_); (clear T F; intro ac w T F)
      repeat (first
    | (((with_reducible refine Sy.is_load ?_); (refine Sy.st_loadOne T F (h := ?_)); clear T; intro ac T))
    | (((with_reducible refine Sy.is_op ?_); refine Sy.st_pure T (h := ?_); clear T; intro ac T))
    | ((with_reducible refine Sy.is_cond ?_); (first
    | refine Sy.st_true T (h := ?_)
    | refine Sy.st_false T (h := ?_)))
    | (with_reducible refine wpList_nil ?_)
    | (with_reducible refine wp_region_lit ?_)
    | (with_reducible refine wp_ret ?_)
    | ((with_reducible refine wp_seq_k ?_); intro _ _)
    | (go_at_K; go_step)
    | (simp only [Exit.then, Exit.inBlock, ↓reduceIte, Nat.reduceEqDiff])
    | ((refine Sy.sx_plain (h := ?_)); ((refine Sy.sx_pure T (h := ?_); clear T; intro ac T)); show Sy.wpUx _ _ _ _ _ _ _ _ _)
    | (with_reducible refine Sy.sx_nil ?_)
    | (with_reducible refine Sy.sx_end ?_))
      ((try simp only [Exit.inBlock, Exit.then]); refine Sy.st_ret1 T F rfl (by repeat (first | exact Sy.ResV.nil | apply Sy.ResV.tmp rfl | apply Sy.ResV.row rfl rfl rfl (by repeat (first | exact Sy.Take.here | apply Sy.Take.there)) (by rfl) | apply Sy.ResV.one rfl rfl rfl (by repeat (first | exact Sy.Take.here | apply Sy.Take.there)) (by rfl))) ?_)
      rw [e]
      exact F.retE (by repeat (first | exact Sy.Take.here | apply Sy.Take.there)) ⟨rfl, ⟨va, vc, da, dc, oa, oc, ma, mc⟩, cd, co, cm, rfl, rfl, h⟩
end En
end Go.Proofs.Ytdpmfjbhadapiaa
