/- slices.BinarySearchFunc at a register's Done and Marks, with the engine's closures. Conditions: the lists can be read, their keys rise. Printed by a program (genbs.py). The register that the engine works on: a block, and three lists that it owns. Rows put together. No condition. The walks of engine.create and engine.remove, with the register's lists. Conditions: the register is the caller's to write; the contract has few variables. -/
import Derived.Test.YtdpmfjbhadapiaaSyV
import Derived.Test.YtdpmfjbhadapiaaFacts
import Derived.Test.YtdpmfjbhadapiaaRowS
import Derived.Test.YtdpmfjbhadapiaaRegD
import Derived.Test.YtdpmfjbhadapiaaSyS
import Derived.Test.YtdpmfjbhadapiaaTbD
namespace Go.Proofs.Ytdpmfjbhadapiaa
open Go.RowKit
set_option linter.unusedVariables false
set_option linter.unusedSimpArgs false
namespace En
open Sy (RetV RetM Sub)
open Rg (eqT eqF i64_wrap i64_up retBb not_t not_f RegD RegA RegAt regCs DoneD DoneR MarkD MarkR CellD CellR doneCs)
open Rc (posN posN_of)
theorem shr1 (x : Nat) : ((x : Int)).fdiv (2 ^ (min ((1 : Int)).toNat IntKind.u64.bits)) = ((x / 2 : Nat) : Int) := by
  have e : ((2 : Int) ^ (min ((1 : Int)).toNat IntKind.u64.bits)) = ((2 : Nat) : Int) := rfl
  rw [e]
  exact (Int.ofNat_fdiv x 2).symm
theorem key_pos {α : Type} {key : α → Nat} {l : List α} {n : Nat} (h : (l.map key).Pairwise (· < ·)) : n ∈ l.map key ↔ ∃ hp : posN (l.map key) n < l.length, key l[posN (l.map key) n] = n := by
  have hs := Rc.posN_spec n h
  constructor
  · intro hx
    obtain ⟨j, hj, e⟩ := List.mem_iff_getElem.1 hx
    have hj' : j < l.length := by simpa using hj
    rw [List.getElem_map] at e
    by_cases h1 : j < posN (l.map key) n
    · have := hs.2.1 j hj h1
      rw [List.getElem_map] at this
      omega
    · have hp : posN (l.map key) n < l.length := by omega
      refine ⟨hp, ?_⟩
      by_cases h3 : posN (l.map key) n = j
      · simp only [h3]; exact e
      · have := hs.2.2 _ (by simpa using hp) (Nat.le_refl _)
        rw [List.getElem_map] at this
        rw [List.pairwise_iff_getElem] at h
        have := h (posN (l.map key) n) j (by simpa using hp) hj (by omega)
        rw [List.getElem_map, List.getElem_map] at this
        omega
  · rintro ⟨hp, e⟩
    rw [← e]
    exact List.mem_map_of_mem (List.getElem_mem hp)
set_option maxRecDepth 20000 in
theorem cmpMark (w0 : World) (x y : MarkD) (hx : x.source < 256) (hy : y.source < 256) : Calls Try.prog 119 #[.agg #[.int .u8 (x.source : Int), .int .u64 (x.inc : Int), .int .u64 (x.cell : Int)], .agg #[.int .u8 (y.source : Int), .int .u64 (y.inc : Int), .int .u64 (y.cell : Int)]] w0 (RetV w0 (.int .i64 ((x.source : Int) - (y.source : Int)))) := by
  have F := Sy.Mem.start (Sub.refl w0)
  have v1 : IntKind.i64.wrap (x.source : Int) = (x.source : Int) := i64_wrap (by omega) (by omega)
  have v2 : IntKind.i64.wrap (y.source : Int) = (y.source : Int) := i64_wrap (by omega) (by omega)
  have v3 : IntKind.i64.wrap ((x.source : Int) - (y.source : Int)) = (x.source : Int) - (y.source : Int) := i64_wrap (by omega) (by omega)
  refine Sy.enter Try.func119 rfl Try.ntmps119 rfl ?_; intro ac T; simp only [Sy.enum, Nat.zero_add, Nat.reduceAdd] at T
  repeat (first
    | (((with_reducible refine Sy.is_load ?_); (refine Sy.st_loadOne T F (h := ?_)); clear T; intro ac T))
    | (((with_reducible refine Sy.is_box ?_); (refine Sy.st_boxAgg T F (h := ?_)); clear T F; intro ac g w T F))
    | (((with_reducible refine Sy.is_op ?_); refine Sy.st_pure T (h := ?_); clear T; intro ac T))
    | (with_reducible refine wpList_nil ?_)
    | (with_reducible refine wp_region_lit ?_)
    | (with_reducible refine wp_ret ?_)
    | ((with_reducible refine wp_seq_k ?_); intro _ _)
    | (go_at_K; go_step)
    | (simp only [Exit.then, Exit.inBlock, ↓reduceIte, Nat.reduceEqDiff]))
  ((try simp only [Exit.inBlock, Exit.then]); refine Sy.st_ret1 T F rfl (by repeat (first | exact Sy.ResV.nil | apply Sy.ResV.tmp rfl | apply Sy.ResV.row rfl rfl rfl (by repeat (first | exact Sy.Take.here | apply Sy.Take.there)) (by rfl) | apply Sy.ResV.one rfl rfl rfl (by repeat (first | exact Sy.Take.here | apply Sy.Take.there)) (by rfl))) ?_)
  exact F.retV _
set_option maxRecDepth 20000 in
theorem cmpMarkL (w0 : World) (x y : MarkD) (hx : x.source < 256) (hy : y.source < 256) : Calls Try.prog 119 (([] : List Value) ++ ([.agg #[.int .u8 (x.source : Int), .int .u64 (x.inc : Int), .int .u64 (x.cell : Int)], .agg #[.int .u8 (y.source : Int), .int .u64 (y.inc : Int), .int .u64 (y.cell : Int)]] : List Value) ++ ([] : List Value)).toArray w0 (RetV w0 (.int .i64 ((x.source : Int) - (y.source : Int)))) := cmpMark w0 x y hx hy
set_option maxRecDepth 20000 in
set_option maxHeartbeats 2000000 in
theorem bsMark (w0 : World) {a : Option Addr} {cap : Nat} {l : List MarkD} (h : Rows MarkR 3 w0 a l) (hlen : l.length ≤ 1000) (hr : (l.map (·.source)).Pairwise (· < ·)) (y : MarkD) (hy : y.source < 256) :
    Calls Try.prog 118 #[.slice a l.length cap, .agg #[.int .u8 (y.source : Int), .int .u64 (y.inc : Int), .int .u64 (y.cell : Int)], .func (.func 119) #[] #[]] w0 (RetV w0 (.tuple #[.int .i64 (posN (l.map (·.source)) y.source : Int), .bool (decide (y.source ∈ l.map (·.source)))])) := by
  have F := Sy.Mem.start (Sub.refl w0)
  have hmono : ∀ i j (hi : i < l.length) (hj : j < l.length), i ≤ j → l[i].source ≤ l[j].source := fun i j hi hj hij => by
    by_cases he : i = j
    · subst he; exact Nat.le_refl _
    · rw [List.pairwise_iff_getElem] at hr
      have := hr i j (by simpa using hi) (by simpa using hj) (by omega)
      rw [List.getElem_map, List.getElem_map] at this
      omega
  refine Sy.enter Try.func118 rfl Try.ntmps118 rfl ?_; intro ac T; simp only [Sy.enum, Nat.zero_add, Nat.reduceAdd] at T
  repeat (first
    | (((with_reducible refine Sy.is_box ?_); (refine Sy.st_boxAgg T F (h := ?_)); clear T F; intro ac g w T F))
    | (((with_reducible refine Sy.is_op ?_); refine Sy.st_pure T (h := ?_); clear T; intro ac T))
    | (with_reducible refine wpList_nil ?_)
    | (with_reducible refine wp_region_lit ?_)
    | (with_reducible refine wp_block ?_)
    | ((with_reducible refine wp_seq_k ?_); intro _ _)
    | (go_at_K; go_step)
    | (simp only [Exit.then, Exit.inBlock, ↓reduceIte, Nat.reduceEqDiff]))
  refine Sy.loop1 (fun g q' ac w' => ∃ i j : Nat, q' = j - i ∧ i ≤ j ∧ j ≤ l.length ∧ (∀ k (hk : k < l.length), k < i → l[k].source < y.source) ∧ (∀ k (hk : k < l.length), j ≤ k → y.source ≤ l[k].source) ∧
    Sy.Tm ac 49 [(0, .slice a l.length cap), (2, .func (.func 119) #[] #[]), (4, .pointer (some ⟨g, 0, none⟩)), (8, .int .i64 (l.length : Int)), (9, .int .i64 (i : Int)), (10, .int .i64 (j : Int))] ∧ Sy.Mem ⟨w0, [], w0⟩ w0 [⟨g, [.int .u8 (y.source : Int), .int .u64 (y.inc : Int), .int .u64 (y.cell : Int)], 69⟩] w') l.length (by exact ⟨0, l.length, rfl, Nat.zero_le _, Nat.le_refl _, fun k _ h => by omega, fun k hk h => by omega, (T.part (by repeat (first | exact Sy.Part.nil | apply Sy.Part.cons rfl))), (F.sel (by repeat (first | exact Sy.Sel.nil | apply Sy.Sel.cons (by repeat (first | exact Sy.Take.here | apply Sy.Take.there)))))⟩) ?_
  clear T F
  intro q' ac w hI J K hJ hK
  obtain ⟨i, j, rfl, hij, hj, hlo, hhi, T, F⟩ := hI
  by_cases hlt : i < j
  · have v1 : decide ((i : Int) < (j : Int)) = true := decide_eq_true (by omega)
    have v2 : IntKind.i64.wrap ((i : Int) + (j : Int)) = ((i + j : Nat) : Int) := by rw [i64_wrap (by omega) (by omega)]; omega
    have v3 : IntKind.u64.wrap ((i + j : Nat) : Int) = ((i + j : Nat) : Int) := by rw [IntKind.wrap_u64]; omega
    have v4 := shr1 (i + j)
    obtain ⟨m, hm⟩ : ∃ m, m = (i + j) / 2 := ⟨_, rfl⟩
    have hm2 : m < l.length ∧ i ≤ m ∧ m < j := by rw [hm]; omega
    rw [← hm] at v4
    have v5 : IntKind.i64.wrap (m : Int) = (m : Int) := i64_wrap (by omega) (by omega)
    have v6 : IntKind.i64.wrap ((m : Int) + 1) = ((m + 1 : Nat) : Int) := by rw [i64_wrap (by omega) (by omega)]; omega
    have hml2 := hm2.1
    obtain ⟨b, o, cs, ha, hcl, hat, hR⟩ := rows_get h hml2
    subst ha
    obtain ⟨rfl, hk256, _⟩ := hR
    by_cases hx : l[m].source < y.source
    · have v7 : decide ((l[m].source : Int) - (y.source : Int) < 0) = true := decide_eq_true (by omega)
      repeat (first
    | (((with_reducible refine Sy.is_op ?_); refine Sy.st_pure T (h := ?_); clear T; intro ac T))
    | ((with_reducible refine Sy.is_cond ?_); (refine Sy.st_true T (h := ?_)))
    | (with_reducible refine wpList_nil ?_)
    | (with_reducible refine wp_region_lit ?_)
    | (with_reducible refine wp_block ?_)
    | (with_reducible refine wp_skip ?_)
    | ((with_reducible refine wp_seq_k ?_); intro _ _)
    | (go_at_K; go_step)
    | (simp only [Exit.then, Exit.inBlock, ↓reduceIte, Nat.reduceEqDiff])
    | ((with_reducible refine Sy.is_drawn (id := 5) ?_); refine Sy.sx_region F [] (.t 0 (.t 1 (.t 2 (.t 3 (.t 4 (.t 5 (.h 6 (.t 7 .e)))))))) [] (by kernel_rfl) ?_; (clear F; intro w F))
    | ((refine Sy.sx_plain (h := ?_)); (first
    | ((with_reducible refine Sy.ux_load ?_); (first
    | refine Sy.sx_val (Sy.rx_loadAll T F) T rfl ?_
    | refine Sy.sx_val (Sy.rx_oldAgg T F) T rfl ?_); clear T; intro ac T)
    | (refine Sy.sx_pure T (h := ?_); clear T; intro ac T)); show Sy.wpUx _ _ _ _ _ _ _ _ _))
      refine Sy.sx_callV rfl T F (us := []) (ks := []) (by exact rfl) (by exact rfl) (by exact rfl) (by exact rfl) (cmpMarkL _ l[m] y hk256 hy) ?_; (clear T F; intro ac w T F)
      repeat (first
    | (((with_reducible refine Sy.is_op ?_); refine Sy.st_pure T (h := ?_); clear T; intro ac T))
    | ((with_reducible refine Sy.is_cond ?_); (refine Sy.st_true T (h := ?_)))
    | (with_reducible refine wpList_nil ?_)
    | (with_reducible refine wp_region_lit ?_)
    | (go_at_K; go_step)
    | (simp only [Exit.then, Exit.inBlock, ↓reduceIte, Nat.reduceEqDiff])
    | ((refine Sy.sx_plain (h := ?_)); ((refine Sy.sx_pure T (h := ?_); clear T; intro ac T)); show Sy.wpUx _ _ _ _ _ _ _ _ _)
    | (with_reducible refine Sy.sx_nil ?_)
    | (with_reducible refine Sy.sx_end ?_))
      exact Sy.handed hJ (k := j - (m + 1)) (by omega) ⟨m + 1, j, rfl, by omega, hj, fun k hk hkm => by have := hmono k m hk hml2 (by omega); omega, hhi, (T.part (by repeat (first | exact Sy.Part.nil | apply Sy.Part.cons rfl))), (F.sel (by repeat (first | exact Sy.Sel.nil | apply Sy.Sel.cons (by repeat (first | exact Sy.Take.here | apply Sy.Take.there)))))⟩
    · have v7 : decide ((l[m].source : Int) - (y.source : Int) < 0) = false := decide_eq_false (by omega)
      repeat (first
    | (((with_reducible refine Sy.is_op ?_); refine Sy.st_pure T (h := ?_); clear T; intro ac T))
    | ((with_reducible refine Sy.is_cond ?_); (refine Sy.st_true T (h := ?_)))
    | (with_reducible refine wpList_nil ?_)
    | (with_reducible refine wp_region_lit ?_)
    | (with_reducible refine wp_block ?_)
    | (with_reducible refine wp_skip ?_)
    | ((with_reducible refine wp_seq_k ?_); intro _ _)
    | (go_at_K; go_step)
    | (simp only [Exit.then, Exit.inBlock, ↓reduceIte, Nat.reduceEqDiff])
    | ((with_reducible refine Sy.is_drawn (id := 5) ?_); refine Sy.sx_region F [] (.t 0 (.t 1 (.t 2 (.t 3 (.t 4 (.t 5 (.h 6 (.t 7 .e)))))))) [] (by kernel_rfl) ?_; (clear F; intro w F))
    | ((refine Sy.sx_plain (h := ?_)); (first
    | ((with_reducible refine Sy.ux_load ?_); (first
    | refine Sy.sx_val (Sy.rx_loadAll T F) T rfl ?_
    | refine Sy.sx_val (Sy.rx_oldAgg T F) T rfl ?_); clear T; intro ac T)
    | (refine Sy.sx_pure T (h := ?_); clear T; intro ac T)); show Sy.wpUx _ _ _ _ _ _ _ _ _))
      refine Sy.sx_callV rfl T F (us := []) (ks := []) (by exact rfl) (by exact rfl) (by exact rfl) (by exact rfl) (cmpMarkL _ l[m] y hk256 hy) ?_; (clear T F; intro ac w T F)
      repeat (first
    | (((with_reducible refine Sy.is_op ?_); refine Sy.st_pure T (h := ?_); clear T; intro ac T))
    | ((with_reducible refine Sy.is_cond ?_); (refine Sy.st_false T (h := ?_)))
    | (with_reducible refine wpList_nil ?_)
    | (with_reducible refine wp_region_lit ?_)
    | (go_at_K; go_step)
    | (simp only [Exit.then, Exit.inBlock, ↓reduceIte, Nat.reduceEqDiff])
    | ((refine Sy.sx_plain (h := ?_)); ((refine Sy.sx_pure T (h := ?_); clear T; intro ac T)); show Sy.wpUx _ _ _ _ _ _ _ _ _)
    | (with_reducible refine Sy.sx_nil ?_)
    | (with_reducible refine Sy.sx_end ?_))
      exact Sy.handed hJ (k := m - i) (by omega) ⟨i, m, rfl, by omega, by omega, hlo, fun k hk hkm => by have := hmono m k hml2 hk (by omega); omega, (T.part (by repeat (first | exact Sy.Part.nil | apply Sy.Part.cons rfl))), (F.sel (by repeat (first | exact Sy.Sel.nil | apply Sy.Sel.cons (by repeat (first | exact Sy.Take.here | apply Sy.Take.there)))))⟩
  · obtain rfl : i = j := by omega
    have v1 : decide ((i : Int) < (i : Int)) = false := decide_eq_false (by omega)
    have hpos : posN (l.map (·.source)) y.source = i := posN_of (by simpa using hj) (fun k hk h1 => by rw [List.getElem_map]; exact hlo k (by simpa using hk) h1) (fun k hk h1 => by rw [List.getElem_map]; exact hhi k (by simpa using hk) h1)
    have hmem := key_pos (n := y.source) hr
    simp only [hpos] at hmem
    by_cases hil : i < l.length
    · have v2 : decide ((i : Int) < (l.length : Int)) = true := decide_eq_true (by omega)
      obtain ⟨b, o, cs, ha, hcl, hat, hR⟩ := rows_get h hil
      subst ha
      obtain ⟨rfl, hk256, _⟩ := hR
      by_cases he : l[i].source = y.source
      · have v3 := eqT (a := (l[i].source : Int) - (y.source : Int)) (b := 0) (by omega)
        repeat (first
    | (((with_reducible refine Sy.is_op ?_); refine Sy.st_pure T (h := ?_); clear T; intro ac T))
    | ((with_reducible refine Sy.is_cond ?_); (refine Sy.st_false T (h := ?_)))
    | (with_reducible refine wpList_nil ?_)
    | (with_reducible refine wp_region_lit ?_)
    | (with_reducible refine wp_exit ?_)
    | ((with_reducible refine wp_seq_k ?_); intro _ _)
    | (go_at_K; go_step)
    | (simp only [Exit.then, Exit.inBlock, ↓reduceIte, Nat.reduceEqDiff])
    | ((with_reducible refine Sy.is_drawn (id := 8) ?_); refine Sy.sx_region F [] (.t 0 (.t 1 (.t 2 (.t 3 (.t 4 (.t 5 (.t 6 (.t 7 (.t 8 (.t 9 (.t 10 (.h 11 (.t 12 (.t 13 (.t 14 (.t 15 .e)))))))))))))))) [] (by kernel_rfl) ?_; (clear F; intro w F))
    | ((first
    | refine Sy.sx_plain (h := ?_)
    | refine Sy.sx_guard (T := T) (h := ?_)); (first
    | ((with_reducible refine Sy.ux_load ?_); (first
    | refine Sy.sx_val (Sy.rx_loadAll T F) T rfl ?_
    | refine Sy.sx_val (Sy.rx_oldAgg T F) T rfl ?_); clear T; intro ac T)
    | (refine Sy.sx_pure T (h := ?_); clear T; intro ac T)); show Sy.wpUx _ _ _ _ _ _ _ _ _))
        refine Sy.sx_callGW rfl T F (us := []) (ks := []) (by exact rfl) (by exact rfl) (by exact rfl) (cmpMarkL _ l[i] y hk256 hy) (h := ?_); (clear T F; intro ac w T F)
        repeat (first
    | (with_reducible refine wp_ret ?_)
    | (go_at_K; go_step)
    | (simp only [Exit.then, Exit.inBlock, ↓reduceIte, Nat.reduceEqDiff])
    | ((first
    | refine Sy.sx_plain (h := ?_)
    | refine Sy.sx_guard (T := T) (h := ?_)); ((refine Sy.sx_pure T (h := ?_); clear T; intro ac T)); show Sy.wpUx _ _ _ _ _ _ _ _ _)
    | (with_reducible refine Sy.sx_nil ?_)
    | (with_reducible refine Sy.sx_end ?_))
        ((try simp only [Exit.inBlock, Exit.then]); refine Sy.st_ret2 T F rfl (by repeat (first | exact Sy.ResV.nil | apply Sy.ResV.tmp rfl | apply Sy.ResV.row rfl rfl rfl (by repeat (first | exact Sy.Take.here | apply Sy.Take.there)) (by rfl) | apply Sy.ResV.one rfl rfl rfl (by repeat (first | exact Sy.Take.here | apply Sy.Take.there)) (by rfl))) ?_)
        rw [hpos, decide_eq_true (hmem.2 ⟨hil, he⟩)]
        exact F.retV _
      · have v3 := eqF (a := (l[i].source : Int) - (y.source : Int)) (b := 0) (by omega)
        repeat (first
    | (((with_reducible refine Sy.is_op ?_); refine Sy.st_pure T (h := ?_); clear T; intro ac T))
    | ((with_reducible refine Sy.is_cond ?_); (refine Sy.st_false T (h := ?_)))
    | (with_reducible refine wpList_nil ?_)
    | (with_reducible refine wp_region_lit ?_)
    | (with_reducible refine wp_exit ?_)
    | ((with_reducible refine wp_seq_k ?_); intro _ _)
    | (go_at_K; go_step)
    | (simp only [Exit.then, Exit.inBlock, ↓reduceIte, Nat.reduceEqDiff])
    | ((with_reducible refine Sy.is_drawn (id := 8) ?_); refine Sy.sx_region F [] (.t 0 (.t 1 (.t 2 (.t 3 (.t 4 (.t 5 (.t 6 (.t 7 (.t 8 (.t 9 (.t 10 (.h 11 (.t 12 (.t 13 (.t 14 (.t 15 .e)))))))))))))))) [] (by kernel_rfl) ?_; (clear F; intro w F))
    | ((first
    | refine Sy.sx_plain (h := ?_)
    | refine Sy.sx_guard (T := T) (h := ?_)); (first
    | ((with_reducible refine Sy.ux_load ?_); (first
    | refine Sy.sx_val (Sy.rx_loadAll T F) T rfl ?_
    | refine Sy.sx_val (Sy.rx_oldAgg T F) T rfl ?_); clear T; intro ac T)
    | (refine Sy.sx_pure T (h := ?_); clear T; intro ac T)); show Sy.wpUx _ _ _ _ _ _ _ _ _))
        refine Sy.sx_callGW rfl T F (us := []) (ks := []) (by exact rfl) (by exact rfl) (by exact rfl) (cmpMarkL _ l[i] y hk256 hy) (h := ?_); (clear T F; intro ac w T F)
        repeat (first
    | (with_reducible refine wp_ret ?_)
    | (go_at_K; go_step)
    | (simp only [Exit.then, Exit.inBlock, ↓reduceIte, Nat.reduceEqDiff])
    | ((first
    | refine Sy.sx_plain (h := ?_)
    | refine Sy.sx_guard (T := T) (h := ?_)); ((refine Sy.sx_pure T (h := ?_); clear T; intro ac T)); show Sy.wpUx _ _ _ _ _ _ _ _ _)
    | (with_reducible refine Sy.sx_nil ?_)
    | (with_reducible refine Sy.sx_end ?_))
        ((try simp only [Exit.inBlock, Exit.then]); refine Sy.st_ret2 T F rfl (by repeat (first | exact Sy.ResV.nil | apply Sy.ResV.tmp rfl | apply Sy.ResV.row rfl rfl rfl (by repeat (first | exact Sy.Take.here | apply Sy.Take.there)) (by rfl) | apply Sy.ResV.one rfl rfl rfl (by repeat (first | exact Sy.Take.here | apply Sy.Take.there)) (by rfl))) ?_)
        rw [hpos, decide_eq_false (fun hx => (let ⟨_, e⟩ := hmem.1 hx; he e))]
        exact F.retV _
    · have v2 : decide ((i : Int) < (l.length : Int)) = false := decide_eq_false (by omega)
      repeat (first
    | (((with_reducible refine Sy.is_op ?_); refine Sy.st_pure T (h := ?_); clear T; intro ac T))
    | ((with_reducible refine Sy.is_cond ?_); (refine Sy.st_false T (h := ?_)))
    | (with_reducible refine wpList_nil ?_)
    | (with_reducible refine wp_region_lit ?_)
    | (with_reducible refine wp_exit ?_)
    | (with_reducible refine wp_ret ?_)
    | ((with_reducible refine wp_seq_k ?_); intro _ _)
    | (go_at_K; go_step)
    | (simp only [Exit.then, Exit.inBlock, ↓reduceIte, Nat.reduceEqDiff])
    | ((with_reducible refine Sy.is_drawn (id := 8) ?_); refine Sy.sx_region F [] (.t 0 (.t 1 (.t 2 (.t 3 (.t 4 (.t 5 (.t 6 (.t 7 (.t 8 (.t 9 (.t 10 (.h 11 (.t 12 (.t 13 (.t 14 (.t 15 .e)))))))))))))))) [] (by kernel_rfl) ?_; (clear F; intro w F))
    | ((refine Sy.sx_plain (h := ?_)); ((refine Sy.sx_pure T (h := ?_); clear T; intro ac T)); show Sy.wpUx _ _ _ _ _ _ _ _ _)
    | ((first
    | refine Sy.sx_unguard (T := T) (h := ?_)
    | refine Sy.sx_unguardH (T := T) (h := ?_)); clear T; intro ac T)
    | (with_reducible refine Sy.sx_nil ?_)
    | (with_reducible refine Sy.sx_end ?_))
      ((try simp only [Exit.inBlock, Exit.then]); refine Sy.st_ret2 T F rfl (by repeat (first | exact Sy.ResV.nil | apply Sy.ResV.tmp rfl | apply Sy.ResV.row rfl rfl rfl (by repeat (first | exact Sy.Take.here | apply Sy.Take.there)) (by rfl) | apply Sy.ResV.one rfl rfl rfl (by repeat (first | exact Sy.Take.here | apply Sy.Take.there)) (by rfl))) ?_)
      rw [hpos, decide_eq_false (fun hx => (let ⟨h1, _⟩ := hmem.1 hx; hil h1))]
      exact F.retV _
set_option maxRecDepth 20000 in
theorem cmpDone (w0 : World) (x y : DoneD) (p q : Rg.RepA) (hx : x.client < 256) (hy : y.client < 256) : Calls Try.prog 84 #[.agg (doneCs x p).toArray, .agg (doneCs y q).toArray] w0 (RetV w0 (.int .i64 ((x.client : Int) - (y.client : Int)))) := by
  have F := Sy.Mem.start (Sub.refl w0)
  have v1 : IntKind.i64.wrap (x.client : Int) = (x.client : Int) := i64_wrap (by omega) (by omega)
  have v2 : IntKind.i64.wrap (y.client : Int) = (y.client : Int) := i64_wrap (by omega) (by omega)
  have v3 : IntKind.i64.wrap ((x.client : Int) - (y.client : Int)) = (x.client : Int) - (y.client : Int) := i64_wrap (by omega) (by omega)
  refine Sy.enter Try.func84 rfl Try.ntmps84 rfl ?_; intro ac T; simp only [Sy.enum, Nat.zero_add, Nat.reduceAdd] at T
  repeat (first
    | (((with_reducible refine Sy.is_load ?_); (refine Sy.st_loadOne T F (h := ?_)); clear T; intro ac T))
    | (((with_reducible refine Sy.is_box ?_); (refine Sy.st_boxAgg T F (h := ?_)); clear T F; intro ac g w T F))
    | (((with_reducible refine Sy.is_op ?_); refine Sy.st_pure T (h := ?_); clear T; intro ac T))
    | (with_reducible refine wpList_nil ?_)
    | (with_reducible refine wp_region_lit ?_)
    | (with_reducible refine wp_ret ?_)
    | ((with_reducible refine wp_seq_k ?_); intro _ _)
    | (go_at_K; go_step)
    | (simp only [Exit.then, Exit.inBlock, ↓reduceIte, Nat.reduceEqDiff]))
  ((try simp only [Exit.inBlock, Exit.then]); refine Sy.st_ret1 T F rfl (by repeat (first | exact Sy.ResV.nil | apply Sy.ResV.tmp rfl | apply Sy.ResV.row rfl rfl rfl (by repeat (first | exact Sy.Take.here | apply Sy.Take.there)) (by rfl) | apply Sy.ResV.one rfl rfl rfl (by repeat (first | exact Sy.Take.here | apply Sy.Take.there)) (by rfl))) ?_)
  exact F.retV _
set_option maxRecDepth 20000 in
theorem cmpDoneL (w0 : World) (x y : DoneD) (p q : Rg.RepA) (hx : x.client < 256) (hy : y.client < 256) : Calls Try.prog 84 (([] : List Value) ++ ([.agg (doneCs x p).toArray, .agg (doneCs y q).toArray] : List Value) ++ ([] : List Value)).toArray w0 (RetV w0 (.int .i64 ((x.client : Int) - (y.client : Int)))) := cmpDone w0 x y p q hx hy
set_option maxRecDepth 20000 in
set_option maxHeartbeats 2000000 in
theorem bsDone (w0 : World) {a : Option Addr} {cap : Nat} {l : List DoneD} (h : Rows DoneR 6 w0 a l) (hlen : l.length ≤ 1000) (hr : (l.map (·.client)).Pairwise (· < ·)) (y : DoneD) (q : Rg.RepA) (hy : y.client < 256) :
    Calls Try.prog 83 #[.slice a l.length cap, .agg (doneCs y q).toArray, .func (.func 84) #[] #[]] w0 (RetV w0 (.tuple #[.int .i64 (posN (l.map (·.client)) y.client : Int), .bool (decide (y.client ∈ l.map (·.client)))])) := by
  have F := Sy.Mem.start (Sub.refl w0)
  have hmono : ∀ i j (hi : i < l.length) (hj : j < l.length), i ≤ j → l[i].client ≤ l[j].client := fun i j hi hj hij => by
    by_cases he : i = j
    · subst he; exact Nat.le_refl _
    · rw [List.pairwise_iff_getElem] at hr
      have := hr i j (by simpa using hi) (by simpa using hj) (by omega)
      rw [List.getElem_map, List.getElem_map] at this
      omega
  refine Sy.enter Try.func83 rfl Try.ntmps83 rfl ?_; intro ac T; simp only [Sy.enum, Nat.zero_add, Nat.reduceAdd] at T
  repeat (first
    | (((with_reducible refine Sy.is_box ?_); (refine Sy.st_boxAgg T F (h := ?_)); clear T F; intro ac g w T F))
    | (((with_reducible refine Sy.is_op ?_); refine Sy.st_pure T (h := ?_); clear T; intro ac T))
    | (with_reducible refine wpList_nil ?_)
    | (with_reducible refine wp_region_lit ?_)
    | (with_reducible refine wp_block ?_)
    | ((with_reducible refine wp_seq_k ?_); intro _ _)
    | (go_at_K; go_step)
    | (simp only [Exit.then, Exit.inBlock, ↓reduceIte, Nat.reduceEqDiff]))
  refine Sy.loop1 (fun g q' ac w' => ∃ i j : Nat, q' = j - i ∧ i ≤ j ∧ j ≤ l.length ∧ (∀ k (hk : k < l.length), k < i → l[k].client < y.client) ∧ (∀ k (hk : k < l.length), j ≤ k → y.client ≤ l[k].client) ∧
    Sy.Tm ac 49 [(0, .slice a l.length cap), (2, .func (.func 84) #[] #[]), (4, .pointer (some ⟨g, 0, none⟩)), (8, .int .i64 (l.length : Int)), (9, .int .i64 (i : Int)), (10, .int .i64 (j : Int))] ∧ Sy.Mem ⟨w0, [], w0⟩ w0 [⟨g, doneCs y q, 96⟩] w') l.length (by exact ⟨0, l.length, rfl, Nat.zero_le _, Nat.le_refl _, fun k _ h => by omega, fun k hk h => by omega, (T.part (by repeat (first | exact Sy.Part.nil | apply Sy.Part.cons rfl))), (F.sel (by repeat (first | exact Sy.Sel.nil | apply Sy.Sel.cons (by repeat (first | exact Sy.Take.here | apply Sy.Take.there)))))⟩) ?_
  clear T F
  intro q' ac w hI J K hJ hK
  obtain ⟨i, j, rfl, hij, hj, hlo, hhi, T, F⟩ := hI
  by_cases hlt : i < j
  · have v1 : decide ((i : Int) < (j : Int)) = true := decide_eq_true (by omega)
    have v2 : IntKind.i64.wrap ((i : Int) + (j : Int)) = ((i + j : Nat) : Int) := by rw [i64_wrap (by omega) (by omega)]; omega
    have v3 : IntKind.u64.wrap ((i + j : Nat) : Int) = ((i + j : Nat) : Int) := by rw [IntKind.wrap_u64]; omega
    have v4 := shr1 (i + j)
    obtain ⟨m, hm⟩ : ∃ m, m = (i + j) / 2 := ⟨_, rfl⟩
    have hm2 : m < l.length ∧ i ≤ m ∧ m < j := by rw [hm]; omega
    rw [← hm] at v4
    have v5 : IntKind.i64.wrap (m : Int) = (m : Int) := i64_wrap (by omega) (by omega)
    have v6 : IntKind.i64.wrap ((m : Int) + 1) = ((m + 1 : Nat) : Int) := by rw [i64_wrap (by omega) (by omega)]; omega
    have hml2 := hm2.1
    obtain ⟨b, o, cs, ha, hcl, hat, hR⟩ := rows_get h hml2
    subst ha
    obtain ⟨p, rfl, hk256, _⟩ := hR
    by_cases hx : l[m].client < y.client
    · have v7 : decide ((l[m].client : Int) - (y.client : Int) < 0) = true := decide_eq_true (by omega)
      repeat (first
    | (((with_reducible refine Sy.is_op ?_); refine Sy.st_pure T (h := ?_); clear T; intro ac T))
    | ((with_reducible refine Sy.is_cond ?_); (refine Sy.st_true T (h := ?_)))
    | (with_reducible refine wpList_nil ?_)
    | (with_reducible refine wp_region_lit ?_)
    | (with_reducible refine wp_block ?_)
    | (with_reducible refine wp_skip ?_)
    | ((with_reducible refine wp_seq_k ?_); intro _ _)
    | (go_at_K; go_step)
    | (simp only [Exit.then, Exit.inBlock, ↓reduceIte, Nat.reduceEqDiff])
    | ((with_reducible refine Sy.is_drawn (id := 5) ?_); refine Sy.sx_region F [] (.t 0 (.t 1 (.t 2 (.t 3 (.t 4 (.t 5 (.h 6 (.t 7 .e)))))))) [] (by kernel_rfl) ?_; (clear F; intro w F))
    | ((refine Sy.sx_plain (h := ?_)); (first
    | ((with_reducible refine Sy.ux_load ?_); (first
    | refine Sy.sx_val (Sy.rx_loadAll T F) T rfl ?_
    | refine Sy.sx_val (Sy.rx_oldAgg T F) T rfl ?_); clear T; intro ac T)
    | (refine Sy.sx_pure T (h := ?_); clear T; intro ac T)); show Sy.wpUx _ _ _ _ _ _ _ _ _))
      refine Sy.sx_callV rfl T F (us := []) (ks := []) (by exact rfl) (by exact rfl) (by exact rfl) (by exact rfl) (cmpDoneL _ l[m] y p q hk256 hy) ?_; (clear T F; intro ac w T F)
      repeat (first
    | (((with_reducible refine Sy.is_op ?_); refine Sy.st_pure T (h := ?_); clear T; intro ac T))
    | ((with_reducible refine Sy.is_cond ?_); (refine Sy.st_true T (h := ?_)))
    | (with_reducible refine wpList_nil ?_)
    | (with_reducible refine wp_region_lit ?_)
    | (go_at_K; go_step)
    | (simp only [Exit.then, Exit.inBlock, ↓reduceIte, Nat.reduceEqDiff])
    | ((refine Sy.sx_plain (h := ?_)); ((refine Sy.sx_pure T (h := ?_); clear T; intro ac T)); show Sy.wpUx _ _ _ _ _ _ _ _ _)
    | (with_reducible refine Sy.sx_nil ?_)
    | (with_reducible refine Sy.sx_end ?_))
      exact Sy.handed hJ (k := j - (m + 1)) (by omega) ⟨m + 1, j, rfl, by omega, hj, fun k hk hkm => by have := hmono k m hk hml2 (by omega); omega, hhi, (T.part (by repeat (first | exact Sy.Part.nil | apply Sy.Part.cons rfl))), (F.sel (by repeat (first | exact Sy.Sel.nil | apply Sy.Sel.cons (by repeat (first | exact Sy.Take.here | apply Sy.Take.there)))))⟩
    · have v7 : decide ((l[m].client : Int) - (y.client : Int) < 0) = false := decide_eq_false (by omega)
      repeat (first
    | (((with_reducible refine Sy.is_op ?_); refine Sy.st_pure T (h := ?_); clear T; intro ac T))
    | ((with_reducible refine Sy.is_cond ?_); (refine Sy.st_true T (h := ?_)))
    | (with_reducible refine wpList_nil ?_)
    | (with_reducible refine wp_region_lit ?_)
    | (with_reducible refine wp_block ?_)
    | (with_reducible refine wp_skip ?_)
    | ((with_reducible refine wp_seq_k ?_); intro _ _)
    | (go_at_K; go_step)
    | (simp only [Exit.then, Exit.inBlock, ↓reduceIte, Nat.reduceEqDiff])
    | ((with_reducible refine Sy.is_drawn (id := 5) ?_); refine Sy.sx_region F [] (.t 0 (.t 1 (.t 2 (.t 3 (.t 4 (.t 5 (.h 6 (.t 7 .e)))))))) [] (by kernel_rfl) ?_; (clear F; intro w F))
    | ((refine Sy.sx_plain (h := ?_)); (first
    | ((with_reducible refine Sy.ux_load ?_); (first
    | refine Sy.sx_val (Sy.rx_loadAll T F) T rfl ?_
    | refine Sy.sx_val (Sy.rx_oldAgg T F) T rfl ?_); clear T; intro ac T)
    | (refine Sy.sx_pure T (h := ?_); clear T; intro ac T)); show Sy.wpUx _ _ _ _ _ _ _ _ _))
      refine Sy.sx_callV rfl T F (us := []) (ks := []) (by exact rfl) (by exact rfl) (by exact rfl) (by exact rfl) (cmpDoneL _ l[m] y p q hk256 hy) ?_; (clear T F; intro ac w T F)
      repeat (first
    | (((with_reducible refine Sy.is_op ?_); refine Sy.st_pure T (h := ?_); clear T; intro ac T))
    | ((with_reducible refine Sy.is_cond ?_); (refine Sy.st_false T (h := ?_)))
    | (with_reducible refine wpList_nil ?_)
    | (with_reducible refine wp_region_lit ?_)
    | (go_at_K; go_step)
    | (simp only [Exit.then, Exit.inBlock, ↓reduceIte, Nat.reduceEqDiff])
    | ((refine Sy.sx_plain (h := ?_)); ((refine Sy.sx_pure T (h := ?_); clear T; intro ac T)); show Sy.wpUx _ _ _ _ _ _ _ _ _)
    | (with_reducible refine Sy.sx_nil ?_)
    | (with_reducible refine Sy.sx_end ?_))
      exact Sy.handed hJ (k := m - i) (by omega) ⟨i, m, rfl, by omega, by omega, hlo, fun k hk hkm => by have := hmono m k hml2 hk (by omega); omega, (T.part (by repeat (first | exact Sy.Part.nil | apply Sy.Part.cons rfl))), (F.sel (by repeat (first | exact Sy.Sel.nil | apply Sy.Sel.cons (by repeat (first | exact Sy.Take.here | apply Sy.Take.there)))))⟩
  · obtain rfl : i = j := by omega
    have v1 : decide ((i : Int) < (i : Int)) = false := decide_eq_false (by omega)
    have hpos : posN (l.map (·.client)) y.client = i := posN_of (by simpa using hj) (fun k hk h1 => by rw [List.getElem_map]; exact hlo k (by simpa using hk) h1) (fun k hk h1 => by rw [List.getElem_map]; exact hhi k (by simpa using hk) h1)
    have hmem := key_pos (n := y.client) hr
    simp only [hpos] at hmem
    by_cases hil : i < l.length
    · have v2 : decide ((i : Int) < (l.length : Int)) = true := decide_eq_true (by omega)
      obtain ⟨b, o, cs, ha, hcl, hat, hR⟩ := rows_get h hil
      subst ha
      obtain ⟨p, rfl, hk256, _⟩ := hR
      by_cases he : l[i].client = y.client
      · have v3 := eqT (a := (l[i].client : Int) - (y.client : Int)) (b := 0) (by omega)
        repeat (first
    | (((with_reducible refine Sy.is_op ?_); refine Sy.st_pure T (h := ?_); clear T; intro ac T))
    | ((with_reducible refine Sy.is_cond ?_); (refine Sy.st_false T (h := ?_)))
    | (with_reducible refine wpList_nil ?_)
    | (with_reducible refine wp_region_lit ?_)
    | (with_reducible refine wp_exit ?_)
    | ((with_reducible refine wp_seq_k ?_); intro _ _)
    | (go_at_K; go_step)
    | (simp only [Exit.then, Exit.inBlock, ↓reduceIte, Nat.reduceEqDiff])
    | ((with_reducible refine Sy.is_drawn (id := 8) ?_); refine Sy.sx_region F [] (.t 0 (.t 1 (.t 2 (.t 3 (.t 4 (.t 5 (.t 6 (.t 7 (.t 8 (.t 9 (.t 10 (.h 11 (.t 12 (.t 13 (.t 14 (.t 15 .e)))))))))))))))) [] (by kernel_rfl) ?_; (clear F; intro w F))
    | ((first
    | refine Sy.sx_plain (h := ?_)
    | refine Sy.sx_guard (T := T) (h := ?_)); (first
    | ((with_reducible refine Sy.ux_load ?_); (first
    | refine Sy.sx_val (Sy.rx_loadAll T F) T rfl ?_
    | refine Sy.sx_val (Sy.rx_oldAgg T F) T rfl ?_); clear T; intro ac T)
    | (refine Sy.sx_pure T (h := ?_); clear T; intro ac T)); show Sy.wpUx _ _ _ _ _ _ _ _ _))
        refine Sy.sx_callGW rfl T F (us := []) (ks := []) (by exact rfl) (by exact rfl) (by exact rfl) (cmpDoneL _ l[i] y p q hk256 hy) (h := ?_); (clear T F; intro ac w T F)
        repeat (first
    | (with_reducible refine wp_ret ?_)
    | (go_at_K; go_step)
    | (simp only [Exit.then, Exit.inBlock, ↓reduceIte, Nat.reduceEqDiff])
    | ((first
    | refine Sy.sx_plain (h := ?_)
    | refine Sy.sx_guard (T := T) (h := ?_)); ((refine Sy.sx_pure T (h := ?_); clear T; intro ac T)); show Sy.wpUx _ _ _ _ _ _ _ _ _)
    | (with_reducible refine Sy.sx_nil ?_)
    | (with_reducible refine Sy.sx_end ?_))
        ((try simp only [Exit.inBlock, Exit.then]); refine Sy.st_ret2 T F rfl (by repeat (first | exact Sy.ResV.nil | apply Sy.ResV.tmp rfl | apply Sy.ResV.row rfl rfl rfl (by repeat (first | exact Sy.Take.here | apply Sy.Take.there)) (by rfl) | apply Sy.ResV.one rfl rfl rfl (by repeat (first | exact Sy.Take.here | apply Sy.Take.there)) (by rfl))) ?_)
        rw [hpos, decide_eq_true (hmem.2 ⟨hil, he⟩)]
        exact F.retV _
      · have v3 := eqF (a := (l[i].client : Int) - (y.client : Int)) (b := 0) (by omega)
        repeat (first
    | (((with_reducible refine Sy.is_op ?_); refine Sy.st_pure T (h := ?_); clear T; intro ac T))
    | ((with_reducible refine Sy.is_cond ?_); (refine Sy.st_false T (h := ?_)))
    | (with_reducible refine wpList_nil ?_)
    | (with_reducible refine wp_region_lit ?_)
    | (with_reducible refine wp_exit ?_)
    | ((with_reducible refine wp_seq_k ?_); intro _ _)
    | (go_at_K; go_step)
    | (simp only [Exit.then, Exit.inBlock, ↓reduceIte, Nat.reduceEqDiff])
    | ((with_reducible refine Sy.is_drawn (id := 8) ?_); refine Sy.sx_region F [] (.t 0 (.t 1 (.t 2 (.t 3 (.t 4 (.t 5 (.t 6 (.t 7 (.t 8 (.t 9 (.t 10 (.h 11 (.t 12 (.t 13 (.t 14 (.t 15 .e)))))))))))))))) [] (by kernel_rfl) ?_; (clear F; intro w F))
    | ((first
    | refine Sy.sx_plain (h := ?_)
    | refine Sy.sx_guard (T := T) (h := ?_)); (first
    | ((with_reducible refine Sy.ux_load ?_); (first
    | refine Sy.sx_val (Sy.rx_loadAll T F) T rfl ?_
    | refine Sy.sx_val (Sy.rx_oldAgg T F) T rfl ?_); clear T; intro ac T)
    | (refine Sy.sx_pure T (h := ?_); clear T; intro ac T)); show Sy.wpUx _ _ _ _ _ _ _ _ _))
        refine Sy.sx_callGW rfl T F (us := []) (ks := []) (by exact rfl) (by exact rfl) (by exact rfl) (cmpDoneL _ l[i] y p q hk256 hy) (h := ?_); (clear T F; intro ac w T F)
        repeat (first
    | (with_reducible refine wp_ret ?_)
    | (go_at_K; go_step)
    | (simp only [Exit.then, Exit.inBlock, ↓reduceIte, Nat.reduceEqDiff])
    | ((first
    | refine Sy.sx_plain (h := ?_)
    | refine Sy.sx_guard (T := T) (h := ?_)); ((refine Sy.sx_pure T (h := ?_); clear T; intro ac T)); show Sy.wpUx _ _ _ _ _ _ _ _ _)
    | (with_reducible refine Sy.sx_nil ?_)
    | (with_reducible refine Sy.sx_end ?_))
        ((try simp only [Exit.inBlock, Exit.then]); refine Sy.st_ret2 T F rfl (by repeat (first | exact Sy.ResV.nil | apply Sy.ResV.tmp rfl | apply Sy.ResV.row rfl rfl rfl (by repeat (first | exact Sy.Take.here | apply Sy.Take.there)) (by rfl) | apply Sy.ResV.one rfl rfl rfl (by repeat (first | exact Sy.Take.here | apply Sy.Take.there)) (by rfl))) ?_)
        rw [hpos, decide_eq_false (fun hx => (let ⟨_, e⟩ := hmem.1 hx; he e))]
        exact F.retV _
    · have v2 : decide ((i : Int) < (l.length : Int)) = false := decide_eq_false (by omega)
      repeat (first
    | (((with_reducible refine Sy.is_op ?_); refine Sy.st_pure T (h := ?_); clear T; intro ac T))
    | ((with_reducible refine Sy.is_cond ?_); (refine Sy.st_false T (h := ?_)))
    | (with_reducible refine wpList_nil ?_)
    | (with_reducible refine wp_region_lit ?_)
    | (with_reducible refine wp_exit ?_)
    | (with_reducible refine wp_ret ?_)
    | ((with_reducible refine wp_seq_k ?_); intro _ _)
    | (go_at_K; go_step)
    | (simp only [Exit.then, Exit.inBlock, ↓reduceIte, Nat.reduceEqDiff])
    | ((with_reducible refine Sy.is_drawn (id := 8) ?_); refine Sy.sx_region F [] (.t 0 (.t 1 (.t 2 (.t 3 (.t 4 (.t 5 (.t 6 (.t 7 (.t 8 (.t 9 (.t 10 (.h 11 (.t 12 (.t 13 (.t 14 (.t 15 .e)))))))))))))))) [] (by kernel_rfl) ?_; (clear F; intro w F))
    | ((refine Sy.sx_plain (h := ?_)); ((refine Sy.sx_pure T (h := ?_); clear T; intro ac T)); show Sy.wpUx _ _ _ _ _ _ _ _ _)
    | ((first
    | refine Sy.sx_unguard (T := T) (h := ?_)
    | refine Sy.sx_unguardH (T := T) (h := ?_)); clear T; intro ac T)
    | (with_reducible refine Sy.sx_nil ?_)
    | (with_reducible refine Sy.sx_end ?_))
      ((try simp only [Exit.inBlock, Exit.then]); refine Sy.st_ret2 T F rfl (by repeat (first | exact Sy.ResV.nil | apply Sy.ResV.tmp rfl | apply Sy.ResV.row rfl rfl rfl (by repeat (first | exact Sy.Take.here | apply Sy.Take.there)) (by rfl) | apply Sy.ResV.one rfl rfl rfl (by repeat (first | exact Sy.Take.here | apply Sy.Take.there)) (by rfl))) ?_)
      rw [hpos, decide_eq_false (fun hx => (let ⟨h1, _⟩ := hmem.1 hx; hil h1))]
      exact F.retV _
end En
end Go.Proofs.Ytdpmfjbhadapiaa
namespace Go.Proofs.Ytdpmfjbhadapiaa
open Go.RowKit
set_option linter.unusedVariables false
set_option linter.unusedSimpArgs false
namespace En
open Sy (RetV RetM Sub)
open Rg (RowsOf flat_len flat_get flat_rows U8 U64 I64 RegD RegA RegAt regCs DoneD DoneR MarkD MarkR CellD CellR doneCs OpD opCs)
open Rc (posN)
section
variable {α : Type} {R : World → List Value → α → Prop} {c : Nat} {m : World} {css : List (List Value)} {l : List α}
theorem rows_up {m' : World} (hR : ∀ cs x, R m cs x → R m' cs x) (h : RowsOf R c m css l) : RowsOf R c m' css l := ⟨h.1, fun i h1 h2 => ⟨(h.2 i h1 h2).1, hR _ _ (h.2 i h1 h2).2⟩⟩
theorem rows_set {x : α} {cs : List Value} (h : RowsOf R c m css l) (hc : cs.length = c) (hx : R m cs x) (i : Nat) : RowsOf R c m (css.set i cs) (l.set i x) := by
  refine ⟨by simp [h.1], fun j h1 h2 => ?_⟩
  rw [List.getElem_set, List.getElem_set]
  by_cases hij : i = j
  · rw [if_pos hij, if_pos hij]; exact ⟨hc, hx⟩
  · rw [if_neg hij, if_neg hij]; exact h.2 j _ _
theorem rows_app {css2 : List (List Value)} {l2 : List α} (h : RowsOf R c m css l) (h2 : RowsOf R c m css2 l2) : RowsOf R c m (css ++ css2) (l ++ l2) := by
  refine ⟨by simp [h.1, h2.1], fun j k1 k2 => ?_⟩
  by_cases hj : j < css.length
  · have hj2 : j < l.length := by rw [← h.1]; exact hj
    rw [List.getElem_append_left hj, List.getElem_append_left hj2]
    exact h.2 j hj hj2
  · have hj2 : l.length ≤ j := by rw [← h.1]; omega
    rw [List.getElem_append_right (by omega), List.getElem_append_right hj2]
    have e : j - css.length = j - l.length := by rw [h.1]
    simp only [e]
    exact h2.2 _ _ _
theorem rows_take (h : RowsOf R c m css l) (i : Nat) : RowsOf R c m (css.take i) (l.take i) := by
  refine ⟨by simp [h.1], fun j k1 k2 => ?_⟩
  rw [List.getElem_take, List.getElem_take]
  exact h.2 j _ _
theorem rows_drop (h : RowsOf R c m css l) (i : Nat) : RowsOf R c m (css.drop i) (l.drop i) := by
  refine ⟨by simp [h.1], fun j k1 k2 => ?_⟩
  rw [List.getElem_drop, List.getElem_drop]
  exact h.2 (i + j) _ _
theorem rows_one {x : α} {cs : List Value} (hc : cs.length = c) (hx : R m cs x) : RowsOf R c m [cs] [x] := by
  refine ⟨rfl, fun j k1 k2 => ?_⟩
  obtain rfl : j = 0 := by simpa using k1
  exact ⟨hc, hx⟩
theorem rows_nil : RowsOf R c m [] ([] : List α) := ⟨rfl, fun i h => by simp at h⟩
end
theorem flat_take {α : Type} (c : Nat) (css : List (List α)) (h : ∀ x ∈ css, x.length = c) (i : Nat) : css.flatten.take (i * c) = (css.take i).flatten ∧ css.flatten.drop (i * c) = (css.drop i).flatten := by
  by_cases hi : i ≤ css.length
  · have e : css.flatten = (css.take i).flatten ++ (css.drop i).flatten := by rw [← List.flatten_append, List.take_append_drop]
    have hl : (css.take i).flatten.length = i * c := by
      rw [flat_len c _ (fun x hx => h x (List.mem_of_mem_take hx)), List.length_take, Nat.min_eq_left hi]
    rw [e]
    exact ⟨List.take_left' hl, List.drop_left' hl⟩
  · have hl := flat_len c css h
    have h1 : css.flatten.length ≤ i * c := by rw [hl]; exact Nat.mul_le_mul_right _ (by omega)
    rw [List.take_of_length_le h1, List.drop_of_length_le h1, List.take_of_length_le (by omega), List.drop_of_length_le (by omega)]
    exact ⟨rfl, rfl⟩
theorem flat_set (c : Nat) (css : List (List Value)) (h : ∀ x ∈ css, x.length = c) {i : Nat} (hi : i < css.length) {cs : List Value} (hc : cs.length = c) : Sy.putL css.flatten (i * c) cs = (css.set i cs).flatten := by
  obtain ⟨e1, e2⟩ := flat_take c css h i
  obtain ⟨e3, e4⟩ := flat_take c css h (i + 1)
  unfold Sy.putL
  rw [hc, show i * c + c = (i + 1) * c by rw [Nat.add_mul, Nat.one_mul], e1, e4, List.set_eq_take_append_cons_drop, if_pos hi, List.flatten_append, List.flatten_cons, List.append_assoc]
theorem flat_one {c : Nat} {css : List (List Value)} {α : Type} {R : World → List Value → α → Prop} {m : World} {l : List α} (h : RowsOf R c m css l) (hR : ∀ cs x, R m cs x → ∀ v ∈ cs, v.oneCell' = true) : ∀ v ∈ css.flatten, v.oneCell' = true := fun v hv => by
  obtain ⟨cs, hcs, hv⟩ := List.mem_flatten.1 hv
  obtain ⟨i, hi, rfl⟩ := List.getElem_of_mem hcs
  exact hR _ _ (h.2 i hi (by rw [← h.1]; exact hi)).2 v hv
theorem done_one {m : World} {cs : List Value} {d : DoneD} (h : DoneR m cs d) : ∀ v ∈ cs, v.oneCell' = true := by
  obtain ⟨p, rfl, _⟩ := h
  intro v hv
  simp [Rg.repCs] at hv
  rcases hv with rfl | rfl | rfl | rfl | rfl | rfl <;> rfl
theorem mark_one {m : World} {cs : List Value} {d : MarkD} (h : MarkR m cs d) : ∀ v ∈ cs, v.oneCell' = true := by
  obtain ⟨rfl, _⟩ := h
  intro v hv
  simp at hv
  rcases hv with rfl | rfl | rfl <;> rfl
theorem cell_one {m : World} {cs : List Value} {d : CellD} (h : CellR m cs d) : ∀ v ∈ cs, v.oneCell' = true := by
  obtain ⟨rfl, _⟩ := h
  intro v hv
  simp at hv
  rcases hv with rfl | rfl | rfl | rfl <;> rfl
/-- the lists of a register that are the call's own -/
def doneO (r : RegD) (q : RegA) (cd : List (List Value)) : Sy.Osl := ⟨96, 6, .slice q.da r.done.length q.dc, r.done.length, cd.flatten⟩
def outO (r : RegD) (q : RegA) (co : List (List Value)) : Sy.Osl := ⟨47, 4, .slice q.oa r.out.length q.oc, r.out.length, co.flatten⟩
def markO (r : RegD) (q : RegA) (cm : List (List Value)) : Sy.Osl := ⟨69, 3, .slice q.ma r.marks.length q.mc, r.marks.length, cm.flatten⟩
def nowL (r : RegD) (q : RegA) (cd co cm : List (List Value)) : List Sy.Osl := [doneO r q cd, outO r q co, markO r q cm]
structure NowAt (m : World) (r : RegD) (q : RegA) (cd co cm : List (List Value)) : Prop where
  kind : U8 r.kind
  inc : U64 r.inc
  state : I64 r.state
  last : U64 r.last
  vars : Nums m q.va r.vars
  cv : r.vars.length ≤ q.vc ∧ q.vc ≤ maxLen
  done : RowsOf DoneR 6 m cd r.done
  out : RowsOf CellR 4 m co r.out
  marks : RowsOf MarkR 3 m cm r.marks
theorem NowAt.sub {m m' : World} {r : RegD} {q : RegA} {cd co cm : List (List Value)} (h : NowAt m r q cd co cm) (hs : Sub m m') : NowAt m' r q cd co cm :=
  ⟨h.kind, h.inc, h.state, h.last, h.vars.sub hs, h.cv, rows_up (fun _ _ h => h.sub hs) h.done, rows_up (R := CellR) (m := m) (m' := m') (fun _ _ h => h) h.out, rows_up (R := MarkR) (m := m) (m' := m') (fun _ _ h => h) h.marks⟩
/-- what a call that works on the register hands back -/
def NowE (v0 : Value) (r : RegD) (m : World) (v : Value) (cs : List Value) (L : List Sy.Osl) : Prop := v = v0 ∧ ∃ q cd co cm, cs = regCs r q ∧ L = nowL r q cd co cm ∧ NowAt m r q cd co cm
/-- put into a list by a key: at its place, or in place of what has that key -/
def insK {α : Type} (key : α → Nat) (l : List α) (x : α) : List α := if key x ∈ l.map key then l.set (posN (l.map key) (key x)) x else l.take (posN (l.map key) (key x)) ++ x :: l.drop (posN (l.map key) (key x))
theorem insK_in {α : Type} {key : α → Nat} {l : List α} {x : α} (h : key x ∈ l.map key) : insK key l x = l.set (posN (l.map key) (key x)) x := by unfold insK; rw [if_pos h]
theorem insK_out {α : Type} {key : α → Nat} {l : List α} {x : α} (h : key x ∉ l.map key) : insK key l x = l.take (posN (l.map key) (key x)) ++ x :: l.drop (posN (l.map key) (key x)) := by unfold insK; rw [if_neg h]
theorem own_rows {α : Type} {R : World → List Value → α → Prop} {c : Nat} (hc0 : 0 < c) {m w : World} {e : TypeId} {css : List (List Value)} {l : List α} {a : Option Addr} {cap : Nat} (h : RowsOf R c m css l) (hR : ∀ cs x, R m cs x → R w cs x) (ho : Own w 0 e c (.slice a l.length cap) l.length css.flatten) : Rows R c w a l := by
  have hcap : l.length ≤ maxLen := by
    obtain ⟨a', cap', hv, hl, hn, hm, _⟩ := ho
    exact Nat.le_trans hn hm
  exact flat_rows hcap hc0 (rows_up hR h) ho.cells
end En
end Go.Proofs.Ytdpmfjbhadapiaa
namespace Go.Proofs.Ytdpmfjbhadapiaa
open Go.RowKit
set_option linter.unusedVariables false
set_option linter.unusedSimpArgs false
namespace Sy
theorem MemE.emptyO {c : Cx} {m w : World} {bs : List Blk} {L : List Osl} {o : Osl} (e : TypeId) (s : Nat) (F : MemE (OwL (o :: L)) c m bs w) : MemE (OwL (⟨e, s, .slice none 0 0, 0, []⟩ :: L)) c m bs w := by
  refine F.congr (fun hr => ⟨fun o' ho => ?_, ?_⟩) fun k hk => ?_
  · rcases List.mem_cons.1 ho with rfl | ho
    · exact Own.empty w 0 e s none
    · exact hr.1 o' (List.mem_cons_of_mem _ ho)
  · have h := hr.2
    rw [blks_cons] at h ⊢
    have hb : (⟨e, s, .slice none 0 0, 0, []⟩ : Osl).blk = none := rfl
    rw [hb]
    cases hb : o.blk with
    | none => rw [hb] at h; exact h
    | some q => rw [hb] at h; exact (List.nodup_cons.1 h).2
  · obtain ⟨o', ho, hb⟩ := mem_blks.1 hk
    rcases List.mem_cons.1 ho with rfl | ho
    · cases hb
    · exact mem_blks.2 ⟨o', List.mem_cons_of_mem _ ho, hb⟩
theorem MemE.newG {W m0 m w : World} {bs : List Blk} {L : List Osl} {g k : Nat} {L' : List Osl} (F : MemE (OwL L') ⟨W, wr g L, m0⟩ m bs w) (hL : ∀ q ∈ blks L, q ∈ blks L') (hk : k ∈ bs.map Blk.adr) (hg : k ≠ g) : W.heap.size ≤ k := by
  obtain ⟨b, hb, rfl⟩ := List.mem_map.1 hk
  rcases (F.own b hb).1 with h | h
  · exact h
  · have h' : b.adr ∈ wr g L := h
    unfold wr at h'
    rcases List.mem_cons.1 h' with h | h
    · exact absurd h hg
    · exact absurd hk (F.loose _ (hL _ h)).2.1
end Sy
namespace En
open Sy (RetV RetM Sub RetE)
open Rg (RowsOf eqT eqF U8 U64 I64 RegD RegA RegAt regCs DoneD DoneR MarkD MarkR CellD CellR)
open Tb (TabD tabCs)
theorem zeros_nums {m : World} {a : Option Addr} {n : Nat} (h : Cells m a (List.replicate n (.int .i64 0))) (hn : n ≤ 1000) : Nums m a (List.replicate n 0) := by
  refine ⟨by unfold maxLen; simp; omega, ?_⟩
  rcases h with h | ⟨b, o, ha, hc⟩
  · left
    simpa using h
  · refine .inr ⟨b, o, ha, fun i hi => ⟨[.int .i64 0], rfl, fun j hj => ?_, by simp⟩⟩
    obtain rfl : j = 0 := by simpa using hj
    have := hc i (by simpa using hi)
    simpa using this
def createS (r : RegD) (count n : Nat) : RegD := ⟨1, count, 0, List.replicate n 0, r.done, [], 0, r.marks⟩
def tombS (r : RegD) : RegD := ⟨2, r.inc, 0, [], r.done, [], 0, r.marks⟩
/-- the register and the error behind create, behind remove -/
def createR (r : RegD) (count n : Nat) : RegD × Nat := if r.kind = 1 then (r, 12) else (createS r count n, 0)
def removeR (r : RegD) : RegD × Nat := if 0 < r.out.length then (r, 16) else (tombS r, 0)
theorem perm_out (a b c : Sy.Osl) : [a, b, c].Perm [b, a, c] := .swap b a [c]
set_option maxRecDepth 20000 in
set_option maxHeartbeats 1000000 in
theorem create_any (W m : World) {g : Nat} {r : RegD} {q : RegA} {cd co cm : List (List Value)} (F : Sy.Handx (nowL r q cd co cm) m W g (regCs r q) 51) (h : NowAt m r q cd co cm) (t : TabD) (ta : Option Addr) (tc : Nat) (count n : Nat) (hc : U64 count) (hv : t.vars = (n : Int)) (hn8 : n ≤ 8) :
    Calls Try.prog 77 #[.agg (tabCs t ta tc).toArray, .pointer (some ⟨g, 0, none⟩), .int .u64 (count : Int)] W (RetE (nowL r q cd co cm) m W g 51 (NowE (.int .i64 ((createR r count n).2 : Int)) (createR r count n).1)) := by
  obtain ⟨va, vc, da, dc, oa, oc, ma, mc⟩ := q
  obtain ⟨states, tv, rules⟩ := t
  simp only at hv
  subst hv
  by_cases hk : r.kind = 1
  · have t1 := eqT (a := (r.kind : Int)) (b := 1) (by omega)
    have e : createR r count n = (r, 12) := by unfold createR; rw [if_pos hk]
    rw [e]
    refine Sy.enter Try.func77 rfl Try.ntmps77 rfl ?_; intro ac T; simp only [Sy.enum, Nat.zero_add, Nat.reduceAdd] at T
    repeat (first
    | (((with_reducible refine Sy.is_load ?_); (refine Sy.st_loadOne T F (h := ?_)); clear T; intro ac T))
    | (((with_reducible refine Sy.is_box ?_); (refine Sy.st_boxAgg T F (h := ?_)); clear T F; intro ac g w T F))
    | (((with_reducible refine Sy.is_op ?_); refine Sy.st_pure T (h := ?_); clear T; intro ac T))
    | ((with_reducible refine Sy.is_cond ?_); (refine Sy.st_true T (h := ?_)))
    | (with_reducible refine wpList_nil ?_)
    | (with_reducible refine wp_region_lit ?_)
    | (with_reducible refine wp_ret ?_)
    | ((with_reducible refine wp_seq_k ?_); intro _ _)
    | (go_at_K; go_step)
    | (simp only [Exit.then, Exit.inBlock, ↓reduceIte, Nat.reduceEqDiff]))
    ((try simp only [Exit.inBlock, Exit.then]); refine Sy.st_ret1 T F rfl (by repeat (first | exact Sy.ResV.nil | apply Sy.ResV.tmp rfl | apply Sy.ResV.row rfl rfl rfl (by repeat (first | exact Sy.Take.here | apply Sy.Take.there)) (by rfl) | apply Sy.ResV.one rfl rfl rfl (by repeat (first | exact Sy.Take.here | apply Sy.Take.there)) (by rfl))) ?_)
    exact F.retE (by repeat (first | exact Sy.Take.here | apply Sy.Take.there)) ⟨rfl, ⟨va, vc, da, dc, oa, oc, ma, mc⟩, cd, co, cm, rfl, rfl, h⟩
  · have t1 := eqF (a := (r.kind : Int)) (b := 1) (by omega)
    have e : createR r count n = (createS r count n, 0) := by unfold createR; rw [if_neg hk]
    rw [e]
    refine Sy.enter Try.func77 rfl Try.ntmps77 rfl ?_; intro ac T; simp only [Sy.enum, Nat.zero_add, Nat.reduceAdd] at T
    repeat (first
    | (((with_reducible refine Sy.is_load ?_); (refine Sy.st_loadOne T F (h := ?_)); clear T; intro ac T))
    | (((with_reducible refine Sy.is_box ?_); (refine Sy.st_boxAgg T F (h := ?_)); clear T F; intro ac g w T F))
    | (((with_reducible refine Sy.is_op ?_); refine Sy.st_pure T (h := ?_); clear T; intro ac T))
    | ((with_reducible refine Sy.is_cond ?_); (refine Sy.st_false T (h := ?_)))
    | (with_reducible refine wpList_nil ?_)
    | (with_reducible refine wp_region_lit ?_)
    | (with_reducible refine wp_skip ?_)
    | ((with_reducible refine wp_seq_k ?_); intro _ _)
    | (go_at_K; go_step)
    | (simp only [Exit.then, Exit.inBlock, ↓reduceIte, Nat.reduceEqDiff])
    | ((with_reducible refine Sy.is_drawn (id := 3) ?_); refine Sy.sx_region F [] (.t 0 (.t 1 (.t 2 (.t 3 (.t 5 (.t 6 (.t 7 (.t 8 (.t 9 (.t 10 (.t 11 (.t 12 (.h 4 (.t 13 .e)))))))))))))) [14, 15] (by kernel_rfl) ?_; (clear F; intro w F))
    | ((refine Sy.sx_plain (h := ?_)); (first
    | ((with_reducible refine Sy.ux_load ?_); (refine Sy.sx_val (Sy.rx_loadOne T F) T rfl ?_); clear T; intro ac T)
    | (refine Sy.sx_pure T (h := ?_); clear T; intro ac T)); show Sy.wpUx _ _ _ _ _ _ _ _ _))
    refine Sy.sx_makeSlice (len := n) rfl T F (by omega) (h := ?_); clear T F; intro ac gn w T F
    repeat (first
    | (((with_reducible refine Sy.is_store ?_); (refine Sy.st_storeAll T F (h := ?_)); clear T F; intro ac w T F))
    | (((with_reducible refine Sy.is_op ?_); refine Sy.st_pure T (h := ?_); clear T; intro ac T))
    | ((with_reducible refine Sy.atK (hK _ _ ?_)))
    | (with_reducible refine wpList_nil ?_)
    | (with_reducible refine wp_region_lit ?_)
    | (with_reducible refine wp_ret ?_)
    | ((with_reducible refine wp_seq_k ?_); intro _ _)
    | (go_at_K; go_step)
    | (simp only [Exit.then, Exit.inBlock, ↓reduceIte, Nat.reduceEqDiff])
    | ((refine Sy.sx_plain (h := ?_)); (((with_reducible refine Sy.ux_build ?_); refine Sy.sx_build T (h := ?_); (conv => whnf); (repeat (refine ⟨by first | exact rfl | exact ⟨rfl, rfl⟩, ?_⟩; (conv => whnf))); clear T; intro ac T)); show Sy.wpUx _ _ _ _ _ _ _ _ _)
    | (with_reducible refine Sy.sx_nil ?_)
    | (with_reducible refine Sy.sx_end ?_)
    | (with_reducible refine Sy.sx_tail rfl rfl (fun K hK => ?_)))
    ((try simp only [Exit.inBlock, Exit.then]); refine Sy.st_ret1 T F rfl (by repeat (first | exact Sy.ResV.nil | apply Sy.ResV.tmp rfl | apply Sy.ResV.row rfl rfl rfl (by repeat (first | exact Sy.Take.here | apply Sy.Take.there)) (by rfl) | apply Sy.ResV.one rfl rfl rfl (by repeat (first | exact Sy.Take.here | apply Sy.Take.there)) (by rfl))) ?_)
    have hnd := F.nodup
    have hW := F.newG (fun _ h => h) (k := gn) (by simp) (fun e => by
      simp at hnd
      exact hnd.1.1 e.symm)
    have F2 := F.takeSl (size := 1) (n := n) (Sy.Take.there Sy.Take.here) (by simp) (by unfold maxLen; omega)
    obtain ⟨m', hS, F3, hcc⟩ := F2.freezeX (fun k hk => by
      cases n with
      | zero => exact (Sy.blk_zero _ k hk).elim
      | succ n => simp [blk] at hk; rw [← hk]; exact hW)
    have F4 := ((F3.ownPerm (perm_out _ _ _)).emptyO 47 4).ownPerm (perm_out _ _ _)
    refine F4.retE Sy.Take.here ⟨rfl, ⟨some ⟨gn, 0, none⟩, n, da, dc, none, 0, ma, mc⟩, cd, [], cm, by simp [regCs, createS], rfl, ?_⟩
    have h2 := h.sub hS
    exact ⟨by unfold U8 createS; simp, hc, by unfold I64 createS; simp, by unfold U64 createS; simp, zeros_nums (hcc _ _ rfl) (by omega), by unfold createS maxLen; simp; omega, h2.done, rows_nil, h2.marks⟩
set_option maxRecDepth 20000 in
set_option maxHeartbeats 1000000 in
theorem remove_any (W m : World) {g : Nat} {r : RegD} {q : RegA} {cd co cm : List (List Value)} (F : Sy.Handx (nowL r q cd co cm) m W g (regCs r q) 51) (h : NowAt m r q cd co cm) :
    Calls Try.prog 82 #[.pointer (some ⟨g, 0, none⟩)] W (RetE (nowL r q cd co cm) m W g 51 (NowE (.int .i64 ((removeR r).2 : Int)) (removeR r).1)) := by
  obtain ⟨va, vc, da, dc, oa, oc, ma, mc⟩ := q
  by_cases h0 : 0 < r.out.length
  · have t1 : decide ((r.out.length : Int) > 0) = true := decide_eq_true (by omega)
    have e : removeR r = (r, 16) := by unfold removeR; rw [if_pos h0]
    rw [e]
    refine Sy.enter Try.func82 rfl Try.ntmps82 rfl ?_; intro ac T; simp only [Sy.enum, Nat.zero_add, Nat.reduceAdd] at T
    repeat (first
    | (((with_reducible refine Sy.is_load ?_); (refine Sy.st_loadOne T F (h := ?_)); clear T; intro ac T))
    | (((with_reducible refine Sy.is_op ?_); refine Sy.st_pure T (h := ?_); clear T; intro ac T))
    | ((with_reducible refine Sy.is_cond ?_); (refine Sy.st_true T (h := ?_)))
    | (with_reducible refine wpList_nil ?_)
    | (with_reducible refine wp_region_lit ?_)
    | (with_reducible refine wp_ret ?_)
    | ((with_reducible refine wp_seq_k ?_); intro _ _)
    | (go_at_K; go_step)
    | (simp only [Exit.then, Exit.inBlock, ↓reduceIte, Nat.reduceEqDiff]))
    ((try simp only [Exit.inBlock, Exit.then]); refine Sy.st_ret1 T F rfl (by repeat (first | exact Sy.ResV.nil | apply Sy.ResV.tmp rfl | apply Sy.ResV.row rfl rfl rfl (by repeat (first | exact Sy.Take.here | apply Sy.Take.there)) (by rfl) | apply Sy.ResV.one rfl rfl rfl (by repeat (first | exact Sy.Take.here | apply Sy.Take.there)) (by rfl))) ?_)
    exact F.retE (by repeat (first | exact Sy.Take.here | apply Sy.Take.there)) ⟨rfl, ⟨va, vc, da, dc, oa, oc, ma, mc⟩, cd, co, cm, rfl, rfl, h⟩
  · have t1 : decide ((r.out.length : Int) > 0) = false := decide_eq_false (by omega)
    have e : removeR r = (tombS r, 0) := by unfold removeR; rw [if_neg h0]
    rw [e]
    refine Sy.enter Try.func82 rfl Try.ntmps82 rfl ?_; intro ac T; simp only [Sy.enum, Nat.zero_add, Nat.reduceAdd] at T
    repeat (first
    | (((with_reducible refine Sy.is_load ?_); (refine Sy.st_loadOne T F (h := ?_)); clear T; intro ac T))
    | (((with_reducible refine Sy.is_store ?_); (refine Sy.st_storeAll T F (h := ?_)); clear T F; intro ac w T F))
    | (((with_reducible refine Sy.is_op ?_); refine Sy.st_pure T (h := ?_); clear T; intro ac T))
    | ((with_reducible refine Sy.atK (hK _ _ ?_)))
    | ((with_reducible refine Sy.is_cond ?_); (refine Sy.st_false T (h := ?_)))
    | (with_reducible refine wpList_nil ?_)
    | (with_reducible refine wp_region_lit ?_)
    | (with_reducible refine wp_skip ?_)
    | (with_reducible refine wp_ret ?_)
    | ((with_reducible refine wp_seq_k ?_); intro _ _)
    | (go_at_K; go_step)
    | (simp only [Exit.then, Exit.inBlock, ↓reduceIte, Nat.reduceEqDiff])
    | ((with_reducible refine Sy.is_drawn (id := 3) ?_); refine Sy.sx_region F [] (.t 0 (.t 1 (.t 2 (.t 3 (.t 4 (.t 5 (.t 6 (.t 7 (.t 8 (.t 9 (.t 10 (.t 11 (.t 12 (.t 13 .e)))))))))))))) [14, 15] (by kernel_rfl) ?_; (clear F; intro w F))
    | ((refine Sy.sx_plain (h := ?_)); (first
    | ((with_reducible refine Sy.ux_load ?_); (refine Sy.sx_val (Sy.rx_loadOne T F) T rfl ?_); clear T; intro ac T)
    | ((with_reducible refine Sy.ux_build ?_); refine Sy.sx_build T (h := ?_); (conv => whnf); (repeat (refine ⟨by first | exact rfl | exact ⟨rfl, rfl⟩, ?_⟩; (conv => whnf))); clear T; intro ac T)
    | (refine Sy.sx_pure T (h := ?_); clear T; intro ac T)); show Sy.wpUx _ _ _ _ _ _ _ _ _)
    | (with_reducible refine Sy.sx_nil ?_)
    | (with_reducible refine Sy.sx_end ?_)
    | (with_reducible refine Sy.sx_tail rfl rfl (fun K hK => ?_)))
    ((try simp only [Exit.inBlock, Exit.then]); refine Sy.st_ret1 T F rfl (by repeat (first | exact Sy.ResV.nil | apply Sy.ResV.tmp rfl | apply Sy.ResV.row rfl rfl rfl (by repeat (first | exact Sy.Take.here | apply Sy.Take.there)) (by rfl) | apply Sy.ResV.one rfl rfl rfl (by repeat (first | exact Sy.Take.here | apply Sy.Take.there)) (by rfl))) ?_)
    have F4 := ((F.ownPerm (perm_out _ _ _)).emptyO 47 4).ownPerm (perm_out _ _ _)
    refine F4.retE Sy.Take.here ⟨rfl, ⟨none, 0, da, dc, none, 0, ma, mc⟩, cd, [], cm, by simp [regCs, tombS], rfl, ?_⟩
    exact ⟨by unfold U8 tombS; simp, h.inc, by unfold I64 tombS; simp, by unfold U64 tombS; simp, (Rows.nil _ _ _ _ : Nums m none []), ⟨Nat.zero_le _, Nat.zero_le _⟩, h.done, rows_nil, h.marks⟩
end En
end Go.Proofs.Ytdpmfjbhadapiaa
